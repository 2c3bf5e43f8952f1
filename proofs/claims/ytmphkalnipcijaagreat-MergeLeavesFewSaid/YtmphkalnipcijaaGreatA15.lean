/- Lemmas for the statements of this seat: an abstract machine that the model follows, and contracts of functions. Conditions: none. -/
import Derived.Test.YtmphkalnipcijaaGreatA06
import Derived.Test.YtmphkalnipcijaaGreatAevFastS6
set_option linter.unusedVariables false
set_option linter.unusedSimpArgs false
/- AevSym2 -/
section
/- Runs over open values: steps, and what a run says of a call. -/
namespace Go.Aev
open Go.RowKit (Below)

structure SCfg where
  P : Program
  T : TypeId → Option Ty
  F : FuncId → Option Func
  rc : FuncId → Bool
  po : FuncId → Bool
  sRC : FuncId → List V → Rows → Option (List Prop × V)

noncomputable def SCfg.cfg (c : SCfg) : Cfg :=
  { P := c.P, T := c.T, F := c.F, rc := c.rc, po := c.po, RC := fun g args rows => match c.sRC g args rows with
    | some (ps, v) => @ite _ (AllP ps) (Classical.propDecidable _) (some v) none
    | none => none }

theorem SCfg.rc_eq {c : SCfg} {g : FuncId} {args : List V} {rows : Rows} {ps : List Prop} {v : V} (h : c.sRC g args rows = some (ps, v)) (hp : AllP ps) : c.cfg.RC g args rows = some v := by
  simp only [SCfg.cfg, h]
  rw [if_pos hp]

def sCallRC (c : SCfg) (g : FuncId) (args : List V) (rows : Rows) : Option (List Prop × Res) :=
  match compact (liveAt rows) (reach rows args) args with
  | some (args', rows') => match c.sRC g args' rows' with
    | some (ps, v) => some (ps, if v.plain then { v } else { v, ups := frozenUps rows (reach rows args) })
    | none => none
  | none => none

theorem sCallRC_sound {c : SCfg} {g : FuncId} {args : List V} {rows : Rows} {ps : List Prop} {res : Res} (e : sCallRC c g args rows = some (ps, res)) (hp : AllP ps) : callRC c.cfg g args rows = some res := by
  unfold sCallRC at e
  unfold callRC
  simp only
  split at e
  · rename_i a r hc
    rw [hc]
    simp only
    split at e
    · rename_i ps' v hv
      cases e
      rw [SCfg.rc_eq hv hp]
      simp only
      split <;> rfl
    · cases e
  · cases e

def sOpRes (c : SCfg) (h : Hint) (env : List V) (rows : Rows) (slot : Nat) (o : Op) : Option (List Prop × Res) :=
  match callView o with
  | some (f, args) => match evalO env f, evalOs env args with
    | some fv, some vs => match fnArgs fv vs with
      | some (g, as) => if c.rc g then sCallRC c g as rows else none
      | none => none
    | _, _ => none
  | none => match evalOs env (opnds o) with
    | some vs => sAct c.T h (lookOf rows vs) slot o vs
    | none => none

theorem sOpRes_sound {c : SCfg} {h : Hint} {env : List V} {rows : Rows} {slot : Nat} {o : Op} {ps : List Prop} {res : Res} (e : sOpRes c h env rows slot o = some (ps, res)) (hp : AllP ps) : opRes c.cfg env rows slot o = some res := by
  unfold sOpRes at e
  unfold opRes
  split at e
  · rename_i f args hcv
    rw [hcv]
    simp only
    split at e
    · rename_i fv vs hf hvs
      rw [hf, hvs]
      simp only
      split at e
      · rename_i g as hfa
        rw [hfa]
        simp only
        split at e
        · rename_i hrc
          rw [if_pos (show c.cfg.rc g = true from hrc)]
          exact sCallRC_sound e hp
        · cases e
      · cases e
    · cases e
  · rename_i hcv
    rw [hcv]
    simp only
    split at e
    · rename_i vs hvs
      rw [hvs]
      exact sAct_sound e hp
    · cases e

/-- a guard, as the prover decides it -/
def sWanted (h : Hint) (ops : Array Oper) (env : List V) (o : Oper) : Option (List Prop × Bool) :=
  match o.guard with
  | none => some ([], true)
  | some (j, want) => match ((ops[j]?).bind (·.dst)) with
    | some d => match env[d]? with
      | some (.d (.bool b)) => match h.gd d with
        | some v => some ([b = v], v == want)
        | none => some ([], b == want)
      | some (.tup _) => some ([], false)
      | _ => none
    | none => none

theorem sWanted_sound {h : Hint} {ops : Array Oper} {env : List V} {o : Oper} {ps : List Prop} {b : Bool} (e : sWanted h ops env o = some (ps, b)) (hp : AllP ps) : wantedA ops env o = some b := by
  unfold sWanted at e
  unfold wantedA
  split at e
  · rename_i hg; cases e; rw [hg]
  · rename_i j want hg
    rw [hg]
    simp only
    split at e
    · rename_i d hd
      rw [hd]
      simp only
      split at e
      · rename_i b' hb
        rw [hb]
        simp only
        split at e
        · rename_i v hv
          cases e
          have := hp.1
          subst this
          rfl
        · cases e; rfl
      · rename_i vs hb
        rw [hb]; cases e; rfl
      · cases e
    · cases e

def sStepR (c : SCfg) (h : Hint) (ops : Array Oper) (slot0 : Nat) (i : Nat) (s : St) : Option (List Prop × Rec) :=
  match ops[i]? with
  | none => none
  | some o => match sWanted h ops s.env o with
    | none => none
    | some (qs, false) => some (qs, { dst := o.dst, v := V.undef, slot := slot0 + i, rdT := readsT ops o, rdR := some [] })
    | some (qs, true) => match sOpRes c h s.env s.rows (slot0 + i) o.op with
      | none => none
      | some (ps, res) =>
        let a : Rec := { dst := o.dst, v := res.v, ups := res.ups, fresh := res.fresh, slot := slot0 + i, rdT := readsT ops o, rdR := readsR s.env s.rows o.op }
        if a.wr.all (fun r => decide (r < s.rows.length)) then some (qs ++ ps, a) else none

theorem sStepR_sound {c : SCfg} {h : Hint} {ops : Array Oper} {slot0 i : Nat} {s : St} {ps : List Prop} {a : Rec} (e : sStepR c h ops slot0 i s = some (ps, a)) (hp : AllP ps) : stepR c.cfg ops slot0 i s = some a := by
  unfold sStepR at e
  unfold stepR
  split at e
  · cases e
  · rename_i o ho
    rw [ho]
    simp only
    split at e
    · cases e
    · rename_i hw; cases e; rw [sWanted_sound hw hp]
    · rename_i qs hw
      split at e
      · cases e
      · rename_i ps' res hres
        simp only at e
        split at e
        · rename_i hall
          cases e
          obtain ⟨h1, h2⟩ := AllP_append hp
          rw [sWanted_sound hw h1]
          simp only
          rw [sOpRes_sound hres h2]
          simp only
          rw [if_pos hall]
        · cases e

def sRunAll (c : SCfg) (h : Hint) (ops : Array Oper) (slot0 : Nat) : List Nat → St → Option (List Prop × List Rec × St)
  | [], s => some ([], [], s)
  | i :: l, s => match sStepR c h ops slot0 i s with
    | some (ps, a) => match sRunAll c h ops slot0 l (a.exec s) with
      | some (qs, rs, s') => some (ps ++ qs, a :: rs, s')
      | none => none
    | none => none

theorem sRunAll_sound {c : SCfg} {h : Hint} {ops : Array Oper} {slot0 : Nat} : ∀ {l : List Nat} {s : St} {ps : List Prop} {rs : List Rec} {s' : St}, sRunAll c h ops slot0 l s = some (ps, rs, s') → AllP ps → runAll c.cfg ops slot0 l s = some (rs, s')
  | [], s, ps, rs, s', e, _ => by cases e; rfl
  | i :: l, s, ps, rs, s', e, hp => by
    simp only [sRunAll] at e
    split at e
    · rename_i ps1 a ha
      split at e
      · rename_i qs rs' s2 hr
        cases e
        obtain ⟨h1, h2⟩ := AllP_append hp
        simp only [runAll, sStepR_sound ha h1, sRunAll_sound hr h2]
      · cases e
    · cases e

def sRegion (c : SCfg) (h : Hint) (ops : Array Oper) (s : St) : Option (List Prop × St) :=
  if edgesOK ops then
    match sRunAll c h ops s.rows.length (List.range ops.size) { s with rows := s.rows ++ List.replicate ops.size .free } with
    | some (ps, rs, s') => if pairsOK (ancs ops ops.size) s.rows.length rs then some (ps, { s' with rows := trimFree s'.rows }) else none
    | none => none
  else none

theorem sRegion_sound {c : SCfg} {h : Hint} {ops : Array Oper} {s st : St} {ps : List Prop} (e : sRegion c h ops s = some (ps, st)) (hp : AllP ps) : regionA c.cfg ops s = some st := by
  unfold sRegion at e
  unfold regionA
  split at e
  · rename_i hed
    rw [if_pos hed]
    split at e
    · rename_i ps' rs s' hr
      split at e
      · rename_i hpr
        cases e
        rw [sRunAll_sound hr hp]
        simp only
        rw [if_pos hpr]
      · cases e
    · cases e
  · cases e

def sCut (c : SCfg) (h : Hint) (ops : Array Oper) (k : Nat) (s : St) : Option (List Prop × St) :=
  if edgesOK ops && decide (k < ops.size) && decide (ops.size ≤ k + 2) && (List.range k).all (fun i => ((ancs ops ops.size).getD k []).contains i) &&
      (List.range' (k + 1) (ops.size - (k + 1))).all (fun i => ((ancs ops ops.size).getD i []).contains k) then
    match sRunAll c h ops s.rows.length (List.range k) { s with rows := s.rows ++ List.replicate ops.size .free } with
    | some (ps, rs, s') => if pairsOK (ancs ops k) s.rows.length rs then some (ps, s') else none
    | none => none
  else none

theorem sCut_sound {c : SCfg} {h : Hint} {ops : Array Oper} {k : Nat} {s st : St} {ps : List Prop} (e : sCut c h ops k s = some (ps, st)) (hp : AllP ps) : cutA c.cfg ops k s = some st := by
  unfold sCut at e
  unfold cutA
  split at e
  · rename_i hed
    rw [if_pos hed]
    split at e
    · rename_i ps' rs s' hr
      split at e
      · rename_i hpr
        cases e
        rw [sRunAll_sound hr hp]
        simp only
        rw [if_pos hpr]
      · cases e
    · cases e
  · cases e

def withP (qs : List Prop) (o : List Prop × Out) : List Prop × Out := (qs ++ o.1, o.2)

noncomputable def sOpDo (c : SCfg) (h : Hint) (s : AS) (ops : Array Oper) (i : Nat) (rest : List Nat) (k : List AItem) (o : Oper) : List Prop × Out :=
  match callView o.op with
  | some (f, args) => match evalO s.fr.env f, evalOs s.fr.env args with
    | some (.yl r), some vs => ([], opStepA c.cfg s ops i rest k)
    | some fv, some vs => match fnArgs fv vs with
      | some (g, as) =>
        if c.po g && c.rc g then
          match sCallRC c g as s.rows with
          | some (ps, res) => (ps, .next { s with fr := { s.fr with env := setTmp s.fr.env o.dst res.v, todo := .it (.inRegion ops rest) :: k }, rows := setRows res.ups s.rows })
          | none => ([], .fail)
        else match enterA c.cfg g as with
          | some fr => ([], .next { fr, stack := s.fr :: s.stack, rows := s.rows })
          | none => ([], .fail)
      | none => ([], .fail)
    | _, _ => ([], .fail)
  | none => match evalOs s.fr.env (opnds o.op) with
    | some vs => match sAct c.T h (lookOf s.rows vs) s.rows.length o.op vs with
      | some (ps, res) => (ps, .next { s with fr := { s.fr with env := setTmp s.fr.env o.dst res.v, todo := .it (.inRegion ops rest) :: k }, rows := applyRes s.rows.length res s.rows })
      | none => ([], .fail)
    | none => ([], .fail)

theorem sOpDo_sound {c : SCfg} {h : Hint} {s : AS} {ops : Array Oper} {i : Nat} {rest : List Nat} {k : List AItem} {op : Oper} {ps : List Prop} {o : Out} (hop : ops[i]? = some op) (hwa : wantedA ops s.fr.env op = some true)
    (e : sOpDo c h s ops i rest k op = (ps, o)) (hp : AllP ps) (hn : o ≠ .fail) : opStepA c.cfg s ops i rest k = o := by
  unfold sOpDo at e
  split at e
  · rename_i f args hcv
    split at e
    · cases e; rfl
    · rename_i fv vs hy hf hvs
      split at e
      · rename_i g as hfa
        have hopst : opStepA c.cfg s ops i rest k = (if c.po g && c.rc g then
            match callRC c.cfg g as s.rows with
            | some res => .next { s with fr := { s.fr with env := setTmp s.fr.env op.dst res.v, todo := .it (.inRegion ops rest) :: k }, rows := setRows res.ups s.rows }
            | none => .fail
          else match enterA c.cfg g as with
            | some fr => .next { fr, stack := s.fr :: s.stack, rows := s.rows }
            | none => .fail) := by
          unfold opStepA
          rw [hop]
          simp only
          rw [hwa]
          simp only
          rw [hcv]
          simp only
          rw [hf, hvs]
          cases fv <;> first
            | (cases hfa; done)
            | (simp only; rw [hfa]; rfl)
        rw [hopst]
        split at e
        · rename_i hpo
          rw [if_pos hpo]
          split at e
          · rename_i ps' res hres
            cases e
            rw [sCallRC_sound hres hp]
          · cases e; exact absurd rfl hn
        · rename_i hpo
          rw [if_neg hpo]
          split at e
          · rename_i fr hen
            cases e
            rfl
          · cases e; exact absurd rfl hn
      · cases e; exact absurd rfl hn
    · cases e; exact absurd rfl hn
  · rename_i hcv
    split at e
    · rename_i vs hvs
      split at e
      · rename_i ps' res hres
        cases e
        unfold opStepA
        rw [hop]
        simp only
        rw [hwa]
        simp only
        rw [hcv]
        simp only
        rw [hvs]
        simp only
        have := sAct_sound hres hp
        have e2 : act c.cfg.T (lookOf s.rows vs) s.rows.length op.op vs = some res := this
        rw [e2]
      · cases e; exact absurd rfl hn
    · cases e; exact absurd rfl hn

noncomputable def sOpStep (c : SCfg) (h : Hint) (s : AS) (ops : Array Oper) (i : Nat) (rest : List Nat) (k : List AItem) : List Prop × Out :=
  match ops[i]? with
  | none => ([], .fail)
  | some o => match sWanted h ops s.fr.env o with
    | some (qs, false) => (qs, .next { s with fr := { s.fr with env := setTmp s.fr.env o.dst V.undef, todo := .it (.inRegion ops rest) :: k } })
    | some (qs, true) => withP qs (sOpDo c h s ops i rest k o)
    | none => ([], .fail)

theorem sOpStep_sound {c : SCfg} {h : Hint} {s : AS} {ops : Array Oper} {i : Nat} {rest : List Nat} {k : List AItem} {ps : List Prop} {o : Out} (e : sOpStep c h s ops i rest k = (ps, o)) (hp : AllP ps) (hn : o ≠ .fail) : opStepA c.cfg s ops i rest k = o := by
  unfold sOpStep at e
  split at e
  · cases e; exact absurd rfl hn
  · rename_i op hop
    split at e
    · rename_i qs hw
      cases e
      have hwa := sWanted_sound hw hp
      unfold opStepA
      rw [hop]
      simp only
      rw [hwa]
    · rename_i qs hw
      cases hd : sOpDo c h s ops i rest k op with
      | mk ps' o' =>
      rw [hd] at e
      unfold withP at e
      injection e with e1 e2
      subst e1; subst e2
      obtain ⟨hq, hp⟩ := AllP_append hp
      exact sOpDo_sound hop (sWanted_sound hw hq) hd hp hn
    · cases e; exact absurd rfl hn

noncomputable def sStep (c : SCfg) (h : Hint) (s : AS) : List Prop × Out :=
  match s.fr.todo with
  | .it (.inRegion ops (i :: rest)) :: k => sOpStep c h s ops i rest k
  | .it (.code (.region _ ops true)) :: k => match sRegion c h ops { env := s.fr.env, rows := s.rows } with
    | some (ps, st) => (ps, .next { s with fr := { s.fr with env := st.env, todo := k }, rows := st.rows })
    | none => match sCut c h ops (cutAt ops) { env := s.fr.env, rows := s.rows } with
      | some (ps, st) => (ps, .next { s with fr := { s.fr with env := st.env, todo := .it (.inRegion ops (cutAt ops :: List.range' (cutAt ops + 1) (ops.size - (cutAt ops + 1)))) :: k }, rows := st.rows })
      | none => ([], .fail)
  | .it (.code (.cond (.tmp t) x y)) :: k => match s.fr.env[t]?, h.gd t with
    | some (.d (.bool b)), some v => ([b = v], toA s (.it (.code (match v with | true => x | false => y)) :: k))
    | _, _ => ([], aStep c.cfg s)
  | _ => ([], aStep c.cfg s)

theorem sStep_sound {w0 : World} {own : Own} {c : SCfg} (hc : COK c.cfg) {bt : Bot} {f : FuncId} {h : Hint} {s : AS} {M : Machine} {ps : List Prop} {o : Out} (hs : SimF c.P w0 own bt f s M) (e : sStep c h s = (ps, o)) (hp : AllP ps) :
    Follows c.P w0 own bt f o M := by
  by_cases hn : o = .fail
  · subst hn; trivial
  · unfold sStep at e
    split at e
    · rename_i ops i rest k ht
      have h1 := sOpStep_sound e hp hn
      have h2 : aStep c.cfg s = opStepA c.cfg s ops i rest k := by unfold aStep; rw [ht]
      rw [← h1, ← h2]
      exact aStep_sound (c := c.cfg) hc hs
    · rename_i id ops k ht
      split at e
      · rename_i ps' st hr
        injection e with e1 e2
        subst e1; subst e2
        have h1 := sRegion_sound hr hp
        have := aStep_sound (c := c.cfg) hc hs
        unfold aStep at this
        rw [ht] at this
        simp only at this
        rw [h1] at this
        exact this
      · split at e
        · rename_i ps' st hr
          injection e with e1 e2
          subst e1; subst e2
          have h1 := sCut_sound hr hp
          have := aCut_sound (c := c.cfg) hc hs
          unfold aCut at this
          rw [ht] at this
          simp only at this
          rw [h1] at this
          exact this
        · injection e with e1 e2
          exact absurd e2.symm hn
    · rename_i t x y k ht
      split at e
      · rename_i b v hb hv
        injection e with e1 e2
        subst e1; subst e2
        have hbv := hp.1
        subst hbv
        have := aStep_sound (c := c.cfg) hc hs
        unfold aStep at this
        rw [ht] at this
        simp only [evalO, List.getD_eq_getElem?_getD, hb, Option.getD_some, known] at this
        cases b <;> exact this
      · injection e with e1 e2
        subst e2
        exact aStep_sound (c := c.cfg) hc hs
    · injection e with e1 e2
      subst e2
      exact aStep_sound (c := c.cfg) hc hs

noncomputable def sRun (c : SCfg) (h : Hint) : Nat → AS → List Prop × Out
  | 0, s => ([], .next s)
  | n + 1, s => match sStep c h s with
    | (ps, .next s') => match sRun c h n s' with
      | (qs, o) => (ps ++ qs, o)
    | (ps, o) => (ps, o)

theorem sRun_sound {w0 : World} {own : Own} {c : SCfg} (hc : COK c.cfg) {bt : Bot} {f : FuncId} {h : Hint} : ∀ {n : Nat} {s : AS} {M : Machine} {ps : List Prop} {o : Out}, SimF c.P w0 own bt f s M → sRun c h n s = (ps, o) → AllP ps → Follows c.P w0 own bt f o M
  | 0, s, M, ps, o, hs, e, _ => by cases e; exact ⟨M, Steps.refl _ _, hs⟩
  | n + 1, s, M, ps, o, hs, e, hp => by
    simp only [sRun] at e
    split at e
    · rename_i ps1 s1 h1
      cases hr : sRun c h n s1 with
      | mk qs o1 =>
      rw [hr] at e
      cases e
      obtain ⟨k1, k2⟩ := AllP_append hp
      obtain ⟨M', st, hs'⟩ := sStep_sound hc hs h1 k1
      exact (sRun_sound hc hs' hr k2).of_steps st
    · rename_i ps1 o1 hno h1
      cases e
      exact sStep_sound hc hs h1 hp

/-- from this state on the call returns, with Q -/
def Ends (c : SCfg) (k : Nat) (s : AS) (Q : V → Rows → Prop) : Prop :=
  ∀ (w0 : World) (own : Own) (bt : Bot) (f : FuncId) (M : Machine), bt.k ≤ k → SimF c.P w0 own bt f s M → ∃ v rows, Q v rows ∧ Follows c.P w0 own bt f (.done v rows) M

variable {c : SCfg} {k : Nat} {s s' : AS} {Q : V → Rows → Prop}

theorem Ends.seg (hc : COK c.cfg) (h : Hint) (n : Nat) {ps : List Prop} (e : sRun c h n s = (ps, .next s')) (hp : AllP ps) (hk : Ends c k s' Q) : Ends c k s Q := by
  intro w0 own bt f M hb hs
  obtain ⟨M', st, hs'⟩ := sRun_sound hc hs e hp
  obtain ⟨v, rows, hq, hf⟩ := hk w0 own bt f M' hb hs'
  exact ⟨v, rows, hq, hf.of_steps st⟩

theorem Ends.fin (hc : COK c.cfg) (h : Hint) (n : Nat) {ps : List Prop} {v : V} {rows : Rows} (e : sRun c h n s = (ps, .done v rows)) (hp : AllP ps) (hq : Q v rows) : Ends c k s Q := by
  intro w0 own bt f M hb hs
  exact ⟨v, rows, hq, sRun_sound hc hs e hp⟩

theorem Ends.mono {Q' : V → Rows → Prop} (h : Ends c k s Q) (hq : ∀ v rows, Q v rows → Q' v rows) : Ends c k s Q' := by
  intro w0 own bt f M hb hs
  obtain ⟨v, rows, h1, h2⟩ := h w0 own bt f M hb hs
  exact ⟨v, rows, hq v rows h1, h2⟩

/-- a run up to a place -/
noncomputable def sTo (c : SCfg) (h : Hint) (stop : AS → Bool) : Nat → AS → List Prop × Out
  | 0, _ => ([], .fail)
  | n + 1, s => match sStep c h s with
    | (ps, .next s') => if stop s then (ps, .next s') else match sTo c h stop n s' with
      | (qs, o) => (ps ++ qs, o)
    | (ps, o) => (ps, o)

theorem sTo_sound {w0 : World} {own : Own} {c : SCfg} (hc : COK c.cfg) {bt : Bot} {f : FuncId} {h : Hint} {stop : AS → Bool} : ∀ {n : Nat} {s : AS} {M : Machine} {ps : List Prop} {o : Out}, SimF c.P w0 own bt f s M → sTo c h stop n s = (ps, o) → AllP ps → Follows c.P w0 own bt f o M
  | 0, s, M, ps, o, hs, e, _ => by cases e; trivial
  | n + 1, s, M, ps, o, hs, e, hp => by
    simp only [sTo] at e
    split at e
    · rename_i ps1 s1 h1
      split at e
      · cases e
        exact sStep_sound hc hs h1 hp
      · cases hr : sTo c h stop n s1 with
        | mk qs o1 =>
        rw [hr] at e
        cases e
        obtain ⟨k1, k2⟩ := AllP_append hp
        obtain ⟨M', st, hs'⟩ := sStep_sound hc hs h1 k1
        exact (sTo_sound hc hs' hr k2).of_steps st
    · rename_i ps1 o1 hno h1
      cases e
      exact sStep_sound hc hs h1 hp

theorem Ends.to (hc : COK c.cfg) (h : Hint) (stop : AS → Bool) (n : Nat) {ps : List Prop} (e : sTo c h stop n s = (ps, .next s')) (hp : AllP ps) (hk : Ends c k s' Q) : Ends c k s Q := by
  intro w0 own bt f M hb hs
  obtain ⟨M', st, hs'⟩ := sTo_sound hc hs e hp
  obtain ⟨v, rows, hq, hf⟩ := hk w0 own bt f M' hb hs'
  exact ⟨v, rows, hq, hf.of_steps st⟩

theorem Ends.toFin (hc : COK c.cfg) (h : Hint) (stop : AS → Bool) (n : Nat) {ps : List Prop} {v : V} {rows : Rows} (e : sTo c h stop n s = (ps, .done v rows)) (hp : AllP ps) (hq : Q v rows) : Ends c k s Q := by
  intro w0 own bt f M hb hs
  exact ⟨v, rows, hq, sTo_sound hc hs e hp⟩

/-- where a loop's body is begun, with n items behind the loop -/
def atLoop (n : Nat) (s : AS) : Bool :=
  match s.fr.todo, s.stack with
  | .it (.inLoop _) :: k, [] => Nat.beq k.length n
  | .it (.code (.loop _)) :: k, [] => Nat.beq k.length n
  | _, _ => false

/-- behind the operation i of a region of n operations -/
def atOp (n i : Nat) (s : AS) : Bool :=
  match s.fr.todo, s.stack with
  | .it (.inRegion ops (j :: _)) :: _, [] => Nat.beq ops.size n && Nat.beq i j
  | _, _ => false

def AS.put (s : AS) (t : Nat) (v : V) : AS := { s with fr := { s.fr with env := s.fr.env.set t v } }
def AS.putRow (s : AS) (r : Nat) (x : Row) : AS := { s with rows := s.rows.set r (.live x) }

theorem list_set_same {α : Type} {l : List α} {i : Nat} {x : α} (h : l[i]? = some x) : l.set i x = l := by
  apply List.ext_getElem?
  intro j
  rw [List.getElem?_set]
  by_cases e : i = j
  · subst e
    rw [if_pos rfl, if_pos (lt_of_get h), h]
  · rw [if_neg e]

/-- a temporary in other words -/
theorem Ends.put (t : Nat) {v v' : V} (e : s.fr.env[t]? = some v) (hv : v = v') (hk : Ends c k (s.put t v') Q) : Ends c k s Q := by
  subst hv
  have : s.put t v = s := by
    unfold AS.put
    rw [list_set_same e]
  rw [this] at hk
  exact hk

/-- a row in other words -/
theorem Ends.putRow (r : Nat) {x x' : Row} (e : s.rows[r]? = some (.live x)) (hx : x = x') (hk : Ends c k (s.putRow r x') Q) : Ends c k s Q := by
  subst hx
  have : s.putRow r x = s := by
    unfold AS.putRow
    rw [list_set_same e]
  rw [this] at hk
  exact hk

end Go.Aev
end
/- AevSym3 -/
section
/- Renaming at a loop's head; what an end says of the call; contracts. -/
namespace Go.Aev
open Go.RowKit (Below)

/-- a row by new numbers, as it is -/
def moveRow (f : Nat → Option Nat) : Option Row → Option Slot
  | some (.dat k es ro) => some (.live (.dat k es ro))
  | some (.box cs ro) => (mapO (renV f 8) cs).map fun cs => .live (.box cs ro)
  | some (.map es c ro) => (mapO (fun e => (renV f 8 e.2).map fun v => (e.1, v)) es).map fun es => .live (.map es c ro)
  | _ => some .dead

def isIt : AItem → Bool
  | .it _ => true
  | .rf _ => false

/-- the temporaries that are kept, the others unknown -/
def moveEnv (f : Nat → Option Nat) (keep : List Nat) : Nat → List V → Option (List V)
  | _, [] => some []
  | i, v :: r => match (if keep.contains i then renV f 8 v else some .any), moveEnv f keep (i + 1) r with
    | some x, some l => some (x :: l)
    | _, _ => none

/-- a state by new numbers: rs the rows that are kept, the first k of them as they are -/
def moveAS (k : Nat) (rs : List Nat) (keep : List Nat) (s : AS) : Option AS :=
  if s.fr.todo.all isIt && s.fr.round.isNone && s.fr.marks.isEmpty && s.stack.isEmpty && (rs.take k == List.range k) && rs.all (fun r => decide (r < s.rows.length)) && decide (rs.eraseDups.length = rs.length) then
    match moveEnv (fun r => idxIn r rs 0) keep 0 s.fr.env, mapO (fun r => moveRow (fun r => idxIn r rs 0) (liveAt s.rows r)) rs with
    | some env, some rows => some { fr := { s.fr with env }, stack := [], rows }
    | _, _ => none
  else none

variable {m : Mp} {S : Nat → Prop} {w : World}

theorem moveRow_by {mT : Mp} {f : Nat → Option Nat} (hf : ∀ r j, f r = some j → mT j = m r) {b o : Nat} {row row' : Row} (h : moveRow f (some row) = some (.live row')) (hr : RowRel m S w b o row) : RowRel mT S w b o row' ∧ row'.rw = row.rw := by
  cases row with
  | dat k es ro => simp only [moveRow] at h; cases h; exact ⟨hr, rfl⟩
  | box cs ro =>
    simp only [moveRow, Option.map_eq_some_iff] at h
    obtain ⟨xs, hx, h⟩ := h
    cases h
    obtain ⟨c, e, h1, h2⟩ := hr
    refine ⟨⟨c, e, h1, fun j x hj => ?_⟩, rfl⟩
    obtain ⟨y, hy, hren⟩ := mapO_get hx hj
    obtain ⟨v, hv, hrel⟩ := h2 j y hy
    exact ⟨v, hv, renV_by hf hren hrel⟩
  | map es clock ro =>
    simp only [moveRow, Option.map_eq_some_iff] at h
    obtain ⟨xs, hx, h⟩ := h
    cases h
    obtain ⟨ents, h1, h2, h3⟩ := hr
    refine ⟨⟨ents, h1, by rw [mapO_len hx]; exact h2, fun j e x hj he => ?_⟩, rfl⟩
    obtain ⟨y, hy, hren⟩ := mapO_get hx hj
    simp only [Option.map_eq_some_iff] at hren
    obtain ⟨z, hz, rfl⟩ := hren
    obtain ⟨k1, k2⟩ := h3 j y x hy he
    exact ⟨k1, renV_by hf hz k2⟩
  | loop _ _ _ _ _ _ _ _ => simp only [moveRow] at h; cases h
  | dfr => simp only [moveRow] at h; cases h

theorem moveRow_rel {rs : List Nat} {b o : Nat} {row row' : Row} (h : moveRow (fun r => idxIn r rs 0) (some row) = some (.live row')) (hr : RowRel m S w b o row) : RowRel (renM m rs) S w b o row' ∧ row'.rw = row.rw :=
  moveRow_by (fun _ _ hj => renM_idx hj) h hr

theorem eraseDups_nodup {l : List Nat} (h : l.eraseDups.length = l.length) : ∀ (i j x : Nat), l[i]? = some x → l[j]? = some x → i = j := by
  have hnd : l.Nodup := by
    induction l with
    | nil => exact List.nodup_nil
    | cons a l ih =>
      rw [List.eraseDups_cons] at h
      have h1 : (l.filter fun b => !b == a).eraseDups.length ≤ (l.filter fun b => !b == a).length := by
        have : ∀ (n : Nat) (l : List Nat), l.length ≤ n → l.eraseDups.length ≤ l.length := by
          intro n
          induction n with
          | zero => intro l hl; have : l = [] := List.length_eq_zero_iff.1 (by omega); subst this; simp
          | succ n ih =>
            intro l hl
            cases l with
            | nil => simp
            | cons a l =>
              rw [List.eraseDups_cons]
              have h2 := List.length_filter_le (fun b => !b == a) l
              have h3 := ih (l.filter fun b => !b == a) (by simp at hl; omega)
              simp only [List.length_cons]
              omega
        exact this _ _ (Nat.le_refl _)
      have h2 := List.length_filter_le (fun b => !b == a) l
      simp only [List.length_cons] at h
      have h3 : (l.filter fun b => !b == a).length = l.length := by omega
      have h4 := List.filter_eq_self.2 (List.length_filter_eq_length_iff.1 h3)
      have h5 := List.length_filter_eq_length_iff.1 h3
      rw [h4] at h
      rw [List.nodup_cons]
      refine ⟨fun ha => ?_, ih (by omega)⟩
      have := h5 a ha
      simp at this
  intro i j x hi hj
  have h1 := lt_of_get hi
  have h2 := lt_of_get hj
  rw [List.getElem?_eq_getElem h1] at hi
  rw [List.getElem?_eq_getElem h2] at hj
  have e : l[i] = l[j] := by
    injection hi with hi; injection hj with hj; rw [hi, hj]
  have hp := List.pairwise_iff_getElem.1 hnd
  rcases Nat.lt_trichotomy i j with h | h | h
  · exact absurd e (hp i j h1 h2 h)
  · exact h
  · exact absurd e.symm (hp j i h2 h1 h)

theorem move_inv {w0 : World} {own : Own} {rows rows' : Rows} {rs : List Nat} (inv : Inv w0 own m S w rows) (hrs : rs.eraseDups.length = rs.length)
    (h : mapO (fun r => moveRow (fun r => idxIn r rs 0) (liveAt rows r)) rs = some rows') : Inv w0 own (renM m rs) S w rows' := by
  have live : ∀ (i : Nat) (row' : Row), rows'[i]? = some (Slot.live row') → ∃ r row b o, rs[i]? = some r ∧ rows[r]? = some (Slot.live row) ∧ m r = some (b, o) ∧ row'.rw = row.rw ∧ RowRel (renM m rs) S w b o row' := by
    intro i row' hi
    obtain ⟨r, hr, hren⟩ := mapO_get h hi
    cases hl : liveAt rows r with
    | none => rw [hl] at hren; simp only [moveRow] at hren; cases hren
    | some row =>
      rw [hl] at hren
      have hrow := liveAt_ok rows r row hl
      obtain ⟨b, o, hm, hrel⟩ := inv.row r row hrow
      obtain ⟨k1, k2⟩ := moveRow_rel hren hrel
      exact ⟨r, row, b, o, hr, hrow, hm, k2, k1⟩
  have mget : ∀ {i : Nat} {p : Nat × Nat}, renM m rs i = some p → ∃ r, rs[i]? = some r ∧ m r = some p := by
    intro i p hi
    unfold renM at hi
    cases hr : rs[i]? with
    | none => rw [hr] at hi; cases hi
    | some r => rw [hr] at hi; exact ⟨r, rfl, hi⟩
  refine ⟨fun i hi => ?_, fun i hi => ?_, fun i row hi => ?_, fun i b o hi => ?_, fun i row b o h1 hw hm => ?_, fun i i' row row' b o b' o' hne h1 h2 hw hm hm' => ?_, fun i row b o h1 hw hm => ?_,
    fun i row b o h1 hw hm => ?_, inv.sbnd, inv.base, inv.stb, inv.os, inv.tape, inv.output, inv.grow, inv.kept⟩
  · rw [mapO_len h] at hi
    simp [renM, hi]
  · obtain ⟨r, hr, hren⟩ := mapO_get h hi
    unfold moveRow at hren
    split at hren
    · cases hren
    · rw [Option.map_eq_some_iff] at hren; obtain ⟨_, _, hq⟩ := hren; cases hq
    · rw [Option.map_eq_some_iff] at hren; obtain ⟨_, _, hq⟩ := hren; cases hq
    · cases hren
  · obtain ⟨r, row0, b, o, e1, e2, e3, _, e4⟩ := live i row hi
    exact ⟨b, o, by simp [renM, e1, e3], e4⟩
  · obtain ⟨r, _, hm⟩ := mget hi
    exact inv.bnd r b o hm
  · obtain ⟨r, row0, b0, o0, e1, e2, e3, e5, _⟩ := live i row h1
    obtain ⟨r', q1, q2⟩ := mget hm
    rw [e1] at q1; cases q1
    exact inv.new r row0 b o e2 (by rw [← e5]; exact hw) q2
  · obtain ⟨r, row0, _, _, e1, e2, _, e5, _⟩ := live i row h1
    obtain ⟨r', row1, _, _, f1, f2, _, _, _⟩ := live i' row' h2
    obtain ⟨q, q1, q2⟩ := mget hm
    rw [e1] at q1; cases q1
    obtain ⟨q', q3, q4⟩ := mget hm'
    rw [f1] at q3; cases q3
    exact inv.apart r r' row0 row1 b o b' o' (fun e => hne (eraseDups_nodup hrs i i' r e1 (by rw [f1, e]))) e2 f2 (by rw [← e5]; exact hw) q2 q4
  · obtain ⟨r, row0, _, _, e1, e2, _, e5, _⟩ := live i row h1
    obtain ⟨q, q1, q2⟩ := mget hm
    rw [e1] at q1; cases q1
    exact inv.stab r row0 b o e2 (by rw [← e5]; exact hw) q2
  · obtain ⟨r, row0, _, _, e1, e2, _, e5, _⟩ := live i row h1
    obtain ⟨q, q1, q2⟩ := mget hm
    rw [e1] at q1; cases q1
    exact inv.rost r row0 b o e2 (by rw [← e5]; exact hw) q2

theorem moveEnv_rel {rs keep : List Nat} : ∀ {xs : List V} {i : Nat} {ys : List V} {arr : Array Value}, moveEnv (fun r => idxIn r rs 0) keep i xs = some ys → REs m S w xs arr → REs (renM m rs) S w ys arr := by
  intro xs i ys arr h hr
  have key : ∀ {xs : List V} {i : Nat} {ys : List V}, moveEnv (fun r => idxIn r rs 0) keep i xs = some ys → ys.length = xs.length ∧ ∀ (j : Nat) (y : V), ys[j]? = some y → ∃ x, xs[j]? = some x ∧ (y = .any ∨ renV (fun r => idxIn r rs 0) 8 x = some y) := by
    intro xs
    induction xs with
    | nil => intro i ys h; cases h; exact ⟨rfl, fun j y hy => by simp at hy⟩
    | cons x xs ih =>
      intro i ys h
      simp only [moveEnv] at h
      split at h
      · rename_i y l h1 h2
        cases h
        obtain ⟨k1, k2⟩ := ih h2
        refine ⟨by simp [k1], fun j z hz => ?_⟩
        cases j with
        | zero =>
          simp at hz; subst hz
          refine ⟨x, rfl, ?_⟩
          split at h1
          · exact .inr h1
          · cases h1; exact .inl rfl
        | succ j => simp only [List.getElem?_cons_succ] at hz ⊢; exact k2 j z hz
      · cases h
  obtain ⟨k1, k2⟩ := key h
  refine ⟨by rw [hr.1, k1], fun j y v hy hv => ?_⟩
  obtain ⟨x, hx, ho⟩ := k2 j y hy
  rcases ho with ho | ho
  · exact .inl ho
  · rcases hr.2 j x v hx hv with h1 | h1
    · subst h1; simp only [renV] at ho; cases ho
    · exact .inr (renV_rel ho h1)

theorem TodoRel.its {m' : Mp} {a : List AItem} {l : List Item} (h : TodoRel m a l) (hi : a.all isIt = true) : TodoRel m' a l := by
  induction h with
  | nil => exact .nil
  | @cons a i k l h1 _ ih =>
    simp only [List.all_cons, Bool.and_eq_true] at hi
    cases a with
    | it j => exact .cons h1 (ih hi.2)
    | rf r => simp [isIt] at hi

/-- a state may be named anew -/
theorem Ends.move {c : SCfg} {k : Nat} {s s' : AS} {Q : V → Rows → Prop} (rs keep : List Nat) (e : moveAS k rs keep s = some s') (hk : Ends c k s' Q) : Ends c k s Q := by
  intro w0 own bt f M hb hs
  refine hk w0 own bt f M hb ?_
  unfold moveAS at e
  split at e
  · rename_i hc
    simp only [Bool.and_eq_true, decide_eq_true_eq, Option.isNone_iff_eq_none, List.isEmpty_iff, beq_iff_eq] at hc
    obtain ⟨⟨⟨⟨⟨⟨c1, c2⟩, c3⟩, c4⟩, c5⟩, c6⟩, c7⟩ := hc
    split at e
    · rename_i env rows h1 h2
      cases e
      obtain ⟨hbf, m, S, w, tmps, todo, ds, ro, cs, rfl, inv, hfr, hst⟩ := hs
      rw [c4] at hst
      cases hst with
      | nil hB =>
        have hro := hfr.ro
        rw [c2] at hro
        have hds := hfr.ds
        rw [c3, c4] at hds
        refine ⟨?_, renM m rs, S, w, tmps, todo, ds, ro, bt.cs, rfl, move_inv inv c7 h2, ⟨moveEnv_rel h1 hfr.env, hfr.todo.its c1, ?_, ?_⟩, .nil ?_⟩
        · rw [c4] at hbf; exact hbf
        · show DsRel (renM m rs) (hidOf bt []) s.fr.marks ds
          rw [c3]; cases hds; exact .nil
        · show RoRel (renM m rs) s.fr.round ro
          rw [c2]; exact hro
        · refine bt.mono m w _ w (fun r hr p hp => ?_) (fun b => Nat.le_refl _) hB
          have hrk : r < k := Nat.lt_of_lt_of_le hr hb
          have : rs[r]? = some r := by
            have h3 : (rs.take k)[r]? = some r := by rw [c5]; simp [hrk]
            rwa [List.getElem?_take_of_lt hrk] at h3
          simp [renM, this, hp]
    · cases e
  · cases e

/-- what a call does to its arguments' rows -/
def Does (P : Program) (g : FuncId) (k : Nat) (args : List V) (rows : Rows) (R : V → Rows → Prop) : Prop :=
  ∀ (w0 : World) (own : Own) (m : Mp) (S : Nat → Prop) (w : World) (vs : Array Value), Inv w0 own m S w rows → RVs m S w args vs →
    Calls P g vs w fun e w' => ∃ u v rows', e = .returned u ∧ R v rows' ∧ ∃ m' S', Inv w0 own m' S' w' rows' ∧ RV m' S' w' v u ∧ (∀ r, r < k → ∀ p, m r = some p → m' r = some p) ∧ (∀ b, bsize w b ≤ bsize w' b)

theorem does_of_ends {c : SCfg} (hc : COK c.cfg) {g : FuncId} {k : Nat} {args : List V} {rows : Rows} {R : V → Rows → Prop} {fr : AF} (he : enterA c.cfg g args = some fr) (h : Ends c k ⟨fr, [], rows⟩ R) : Does c.P g k args rows R := by
  intro w0 own m S w vs inv ha cs
  obtain ⟨gf, h1, h2, h3, tmps, todo, h4, hfr⟩ := enterA_rel hc he ha
  have hg : fr.fn = g := by
    unfold enterA at he
    split at he
    · split at he
      · cases he; rfl
      · cases he
    · cases he
  have hsim : SimF c.P w0 own (botOf cs m w k) g { fr, stack := [], rows } (lone (Frame.enter c.P g vs .normal) cs w) := by
    refine ⟨hg, m, S, w, tmps, todo, [], none, cs, ?_, inv, hfr, .nil (cs0 := botOf cs m w k) (botOf_start cs m w k)⟩
    show lone (Frame.enter c.cfg.P g vs .normal) cs w = _
    rw [h4]
  obtain ⟨v, rows', hq, frR, w', m', S', u, s1, s2, s3, s4, s5, s6⟩ := h w0 own (botOf cs m w k) g _ (Nat.le_refl _) hsim
  exact ⟨.returned u, w', frR, ⟨u, v, rows', rfl, hq, m', S', s4, s5, s6.1, s6.2⟩, s1, s2.1, leaving_nil s2.2 s3⟩

/-- one row of the table of reading calls -/
def RCs (P : Program) (g : FuncId) (args : List V) (rows : Rows) (v : V) : Prop :=
  ∀ (w0 : World) (own : Own) (m : Mp) (S : Nat → Prop) (w : World) (vs : Array Value), Inv w0 own m S w rows → (∀ (r : Nat) (row : Row), rows[r]? = some (Slot.live row) → row.rw = false) → RVs m S w args vs →
    Calls P g vs w fun e w' => ∃ u, e = .returned u ∧ ∃ S' : Nat → Prop, (∀ c, S c → S' c) ∧ (∀ c, S' c → S c ∨ (w.heap.size ≤ c ∧ c < w'.heap.size)) ∧ (∀ m2 : Mp, RV m2 S' w' v u) ∧
      (∀ c, c < w.heap.size → w'.heap[c]? = w.heap[c]?) ∧ w.heap.size ≤ w'.heap.size ∧ w'.os = w.os ∧ w'.tape = w.tape ∧ w'.output = w.output

theorem rcs_of_does {P : Program} {g : FuncId} {k : Nat} {args : List V} {rows : Rows} {x : V} (h : Does P g k args rows fun v rows' => convV (liveAt rows') v = some x) : RCs P g args rows x := by
  intro w0 own m S w vs inv hro ha
  refine (h w ⟨fun _ => False, S⟩ m S w vs (inv.rebase hro) ha).mono fun e w' ⟨u, v, rows', he, hq, m', S', i1, r1, _, _⟩ => ⟨u, he, ?_⟩
  obtain ⟨S2, rows2, i2, r2⟩ := convV_sound i1 hq r1
  refine ⟨S2, fun c hc => i2.stb c hc, fun c hc => ?_, r2, fun c hc => i2.kept c hc (fun h => h), i2.grow, i2.os, i2.tape, i2.output⟩
  rcases i2.base c hc with h1 | h1 | h1
  · exact .inl h1
  · exact .inr ⟨h1, i2.sbnd c hc⟩
  · exact h1.elim

/-- the table of reading calls, row by row -/
def TableOK (c : SCfg) : Prop := ∀ g args rows ps v, c.sRC g args rows = some (ps, v) → AllP ps → RCs c.P g args rows v

theorem scfg_ok {c : SCfg} (hT : TOK c.P c.T) (hF : ∀ g gf, c.F g = some gf → c.P.funcs[g]? = some gf ∧ (gf.name == "runtime.NumGoroutine") = false)
    (hrc : ∀ g, c.rc g = true → ∃ gf, c.P.funcs[g]? = some gf ∧ gf.body.isSome = true ∧ (gf.name == "runtime.NumGoroutine") = false) (hm : c.P.follows .mixedOrders = true) (ht : TableOK c) : COK c.cfg := by
  refine ⟨hT, hF, fun g args rows v h => ?_, hrc, hm⟩
  simp only [SCfg.cfg] at h
  split at h
  · rename_i ps v' hs
    by_cases hp : AllP ps
    · rw [if_pos hp] at h
      cases h
      exact ht g args rows ps v hs hp
    · rw [if_neg hp] at h; cases h
  · cases h

end Go.Aev
end
/- AevSym4 -/
section
/- A call that may write into the rows that it reaches, by its contract. -/
namespace Go.Aev

def slotLive : Slot → Bool
  | .live _ => true
  | _ => false

/-- the call at a state's head: callee, arguments and rows by new numbers, the rows reached -/
def callAt (c : Cfg) (s : AS) : Option (FuncId × List V × Rows × List Nat) :=
  match s.fr.todo with
  | .it (.inRegion ops (i :: _)) :: _ => match ops[i]? with
    | some o => match wantedA ops s.fr.env o, callView o.op with
      | some true, some (f, args) => match evalO s.fr.env f, evalOs s.fr.env args with
        | some fv, some vs => match fnArgs fv vs with
          | some (g, as) =>
            let rs := reach s.rows as
            if c.rc g && decide (rs.eraseDups.length = rs.length) then
              match mapO (renV (fun r => idxIn r rs 0) 8) as, mapO (fun r => moveRow (fun r => idxIn r rs 0) (liveAt s.rows r)) rs with
              | some as', some rows' => if rows'.all slotLive then some (g, as', rows', rs) else none
              | _, _ => none
            else none
          | none => none
        | _, _ => none
      | _, _ => none
    | none => none
  | _ => none

/-- the rows as the call left them -/
def backRows (rs : List Nat) : Nat → Rows → Rows → Option Rows
  | _, [], rows => some rows
  | i, x :: l, rows => match rs[i]? with
    | none => some rows
    | some r => match x with
      | .live row => match moveRow (fun j => rs[j]?) (some row) with
        | some (.live row') => backRows rs (i + 1) l (rows.set r (.live row'))
        | _ => none
      | _ => backRows rs (i + 1) l (rows.set r .dead)

/-- the state behind the call -/
def backAt (s : AS) (rs : List Nat) (v : V) (rows' : Rows) : Option AS :=
  match s.fr.todo with
  | .it (.inRegion ops (i :: rest)) :: k => match ops[i]? with
    | some o => match renV (fun j => rs[j]?) 8 v, backRows rs 0 rows' s.rows with
      | some v', some rows => some { s with fr := { s.fr with env := setTmp s.fr.env o.dst v', todo := .it (.inRegion ops rest) :: k }, rows }
      | _, _ => none
    | none => none
  | _ => none

theorem backRows_get {rs : List Nat} : ∀ {l : Rows} {i : Nat} {rows rows' : Rows}, backRows rs i l rows = some rows' → (∀ (a b r : Nat), rs[a]? = some r → rs[b]? = some r → a = b) →
    rows'.length = rows.length ∧ ∀ (q : Nat), (∀ j, i ≤ j → j < i + l.length → rs[j]? ≠ some q) → rows'[q]? = rows[q]?
  | [], i, rows, rows', h, _ => by cases h; exact ⟨rfl, fun q _ => rfl⟩
  | x :: l, i, rows, rows', h, hn => by
    simp only [backRows] at h
    cases hr : rs[i]? with
    | none => rw [hr] at h; cases h; exact ⟨rfl, fun q _ => rfl⟩
    | some r =>
      rw [hr] at h
      have key : ∀ (s : Slot), backRows rs (i + 1) l (rows.set r s) = some rows' → rows'.length = rows.length ∧ ∀ (q : Nat), (∀ j, i ≤ j → j < i + (x :: l).length → rs[j]? ≠ some q) → rows'[q]? = rows[q]? := by
        intro s hs
        obtain ⟨h1, h2⟩ := backRows_get hs hn
        refine ⟨by rw [h1, List.length_set], fun q hq => ?_⟩
        rw [h2 q (fun j hj hj' => hq j (by omega) (by simp; omega)), List.getElem?_set_ne (fun e => hq i (Nat.le_refl _) (by simp) (by rw [hr, e]))]
      simp only at h
      cases x with
      | live row =>
        simp only at h
        split at h
        · exact key _ h
        · cases h
      | free => exact key _ h
      | dead => exact key _ h

theorem backRows_at {rs : List Nat} : ∀ {l : Rows} {i : Nat} {rows rows' : Rows}, backRows rs i l rows = some rows' → (∀ (a b r : Nat), rs[a]? = some r → rs[b]? = some r → a = b) → (∀ (a r : Nat), rs[a]? = some r → r < rows.length) →
    ∀ (j r : Nat) (x : Slot), l[j]? = some x → rs[i + j]? = some r → rows'[r]? = some (match x with | .live row => (match moveRow (fun j => rs[j]?) (some row) with | some y => y | none => .dead) | _ => .dead) ∧ (∀ row, x = .live row → ∃ row', moveRow (fun j => rs[j]?) (some row) = some (.live row'))
  | [], i, rows, rows', h, _, _, j, r, x, hx, _ => by simp at hx
  | y :: l, i, rows, rows', h, hn, hb, j, r, x, hx, hr => by
    simp only [backRows] at h
    cases j with
    | succ j =>
      simp only [List.getElem?_cons_succ] at hx
      have hr' : rs[i + 1 + j]? = some r := by rw [← hr]; congr 1; omega
      cases hi : rs[i]? with
      | none =>
        have h1 := lt_of_get hr
        rw [List.getElem?_eq_none_iff] at hi
        omega
      | some r0 =>
        rw [hi] at h
        simp only at h
        cases y with
        | live row =>
          simp only at h
          split at h
          · exact backRows_at h hn (fun a r h => by rw [List.length_set]; exact hb a r h) j r x hx hr'
          · cases h
        | free => exact backRows_at h hn (fun a r h => by rw [List.length_set]; exact hb a r h) j r x hx hr'
        | dead => exact backRows_at h hn (fun a r h => by rw [List.length_set]; exact hb a r h) j r x hx hr'
    | zero =>
      simp at hx; subst hx
      rw [Nat.add_zero] at hr
      rw [hr] at h
      have fin : ∀ (s : Slot), backRows rs (i + 1) l (rows.set r s) = some rows' → rows'[r]? = some s := by
        intro s hs
        rw [(backRows_get hs hn).2 r (fun j hj _ he => by have := hn j i r he hr; omega), List.getElem?_set_self (hb i r hr)]
      simp only at h
      cases y with
      | live row =>
        simp only at h
        split at h
        · rename_i row' hm
          refine ⟨?_, fun row2 e => ?_⟩
          · rw [fin _ h]; simp only [hm]
          · cases e; exact ⟨row', hm⟩
        · cases h
      | free => exact ⟨fin _ h, fun row e => by cases e⟩
      | dead => exact ⟨fin _ h, fun row e => by cases e⟩

variable {w0 : World} {own : Own} {m : Mp} {S : Nat → Prop} {w : World} {rows : Rows}

/-- the blocks that a call may write -/
def callOwn (m : Mp) (S : Nat → Prop) (rows : Rows) (rs : List Nat) : Own := ⟨fun b => ∃ r row o, r ∈ rs ∧ rows[r]? = some (Slot.live row) ∧ row.rw = true ∧ m r = some (b, o), S⟩

theorem call_inv (inv : Inv w0 own m S w rows) {rs : List Nat} {rows' : Rows} (hrs : rs.eraseDups.length = rs.length)
    (h : mapO (fun r => moveRow (fun r => idxIn r rs 0) (liveAt rows r)) rs = some rows') : Inv w (callOwn m S rows rs) (renM m rs) S w rows' := by
  have i1 := move_inv inv hrs h
  refine ⟨i1.none, i1.fre, i1.row, i1.bnd, fun i row b o h1 hw hm => ?_, i1.apart, i1.stab, i1.rost, i1.sbnd, fun b hb => .inl hb, fun b hb => hb, rfl, rfl, rfl, Nat.le_refl _, fun _ _ _ => rfl⟩
  obtain ⟨r, hr, hren⟩ := mapO_get h h1
  cases hl : liveAt rows r with
  | none => rw [hl] at hren; simp only [moveRow] at hren; cases hren
  | some row0 =>
    rw [hl] at hren
    have hrow := liveAt_ok rows r row0 hl
    obtain ⟨b0, o0, hm0, hrel⟩ := inv.row r row0 hrow
    obtain ⟨_, k2⟩ := moveRow_rel hren hrel
    have : renM m rs i = m r := by simp [renM, hr]
    rw [this] at hm
    exact .inr ⟨r, row0, o, List.mem_of_getElem? hr, hrow, by rw [← k2]; exact hw, hm⟩

/-- what the call left, in the caller's numbers -/
theorem back_inv (inv : Inv w0 own m S w rows) {rs : List Nat} {rowsC rows2 rows3 : Rows} (hrs : rs.eraseDups.length = rs.length)
    (h : mapO (fun r => moveRow (fun r => idxIn r rs 0) (liveAt rows r)) rs = some rowsC) (hlive : rowsC.all slotLive = true) {m' : Mp} {S' : Nat → Prop} {w' : World}
    (i2 : Inv w (callOwn m S rows rs) m' S' w' rows2) (hm' : ∀ r, r < rs.length → ∀ p, renM m rs r = some p → m' r = some p) (hsz : ∀ b, bsize w b ≤ bsize w' b) (hb : backRows rs 0 rows2 rows = some rows3) :
    Inv w0 own m S' w' rows3 ∧ Ext m S w m S' w' ∧ ∀ j r, rs[j]? = some r → m r = m' j := by
  have hnd := eraseDups_nodup hrs
  have hlen := mapO_len h
  -- the reached rows were live
  have old : ∀ j r, rs[j]? = some r → ∃ row b o, rows[r]? = some (Slot.live row) ∧ m r = some (b, o) ∧ m' j = some (b, o) := by
    intro j r hr
    have hj := lt_of_get hr
    have hjc : j < rowsC.length := by omega
    have hlv := (List.all_eq_true.1 hlive) rowsC[j] (List.getElem_mem hjc)
    obtain ⟨r2, hr2, hren⟩ := mapO_get h (List.getElem?_eq_getElem hjc)
    rw [hr] at hr2; cases hr2
    cases hl : liveAt rows r with
    | none => rw [hl] at hren; simp only [moveRow] at hren; injection hren with he; rw [← he] at hlv; cases hlv
    | some row =>
      have hrow := liveAt_ok rows r row hl
      obtain ⟨b, o, hm, _⟩ := inv.row r row hrow
      exact ⟨row, b, o, hrow, hm, hm' j hj (b, o) (by simp [renM, hr, hm])⟩
  have hback : ∀ j r, rs[j]? = some r → m r = m' j := by
    intro j r hr
    obtain ⟨row, b, o, _, h1, h2⟩ := old j r hr
    rw [h1, h2]
  have hbnd : ∀ (a r : Nat), rs[a]? = some r → r < rows.length := fun a r hr => by
    obtain ⟨row, _, _, h1, _⟩ := old a r hr
    exact lt_of_get h1
  obtain ⟨hl3, hoth⟩ := backRows_get hb hnd
  -- own blocks are among those that the caller may write
  have ownOK : ∀ b, (callOwn m S rows rs) b → w0.heap.size ≤ b ∨ own b := fun b ⟨r, row, o, _, h1, h2, h3⟩ => inv.new r row b o h1 h2 h3
  have ownS : ∀ b, (callOwn m S rows rs) b → ¬ S b := fun b ⟨r, row, o, _, h1, h2, h3⟩ => inv.stab r row b o h1 h2 h3
  have heapS : ∀ b, b < w.heap.size → ¬ (callOwn m S rows rs) b → w'.heap[b]? = w.heap[b]? := i2.kept
  have ext : Ext m S w m S' w' := ⟨fun _ _ e => e, fun b hb => i2.stb b hb, fun b hb o => cl_of_heap (heapS b (inv.sbnd b hb) (fun hc => ownS b hc hb)) o, hsz⟩
  -- rows that were not reached
  have notIn : ∀ q, (∀ j, 0 ≤ j → j < 0 + rows2.length → rs[j]? ≠ some q) ∨ ∃ j, j < rows2.length ∧ rs[j]? = some q := by
    intro q
    by_cases hq : ∃ j, j < rows2.length ∧ rs[j]? = some q
    · exact .inr hq
    · exact .inl fun j _ hj e => hq ⟨j, by omega, e⟩
  have cases3 : ∀ (q : Nat) (x : Slot), rows3[q]? = some x → (rows[q]? = some x ∧ ∀ j, j < rows2.length → rs[j]? ≠ some q) ∨
      ∃ (j : Nat) (y : Slot), rs[j]? = some q ∧ rows2[j]? = some y ∧ ((∃ row row', y = Slot.live row ∧ moveRow (fun j => rs[j]?) (some row) = some (Slot.live row') ∧ x = Slot.live row') ∨ ((∀ row, y ≠ Slot.live row) ∧ x = Slot.dead)) := by
    intro q x hx
    rcases notIn q with h1 | ⟨j, hj, hq⟩
    · left
      rw [hoth q h1] at hx
      exact ⟨hx, fun j hj => h1 j (Nat.zero_le _) (by omega)⟩
    · right
      have hy : rows2[j]? = some rows2[j] := List.getElem?_eq_getElem hj
      obtain ⟨e1, e2⟩ := backRows_at hb hnd hbnd j q rows2[j] hy (by rw [Nat.zero_add]; exact hq)
      refine ⟨j, rows2[j], hq, hy, ?_⟩
      rw [e1] at hx
      cases hyc : rows2[j] with
      | live row =>
        obtain ⟨row', hr'⟩ := e2 row hyc
        rw [hyc] at hx
        simp only [hr'] at hx
        cases hx
        exact .inl ⟨row, row', rfl, hr', rfl⟩
      | free => rw [hyc] at hx; cases hx; exact .inr ⟨fun row e => (by cases e), rfl⟩
      | dead => rw [hyc] at hx; cases hx; exact .inr ⟨fun row e => (by cases e), rfl⟩
  -- a block of a row that was not reached is not the call's own
  have notOwn : ∀ q row b o, rows[q]? = some (Slot.live row) → m q = some (b, o) → (∀ j, j < rs.length → rs[j]? ≠ some q) → ¬ (callOwn m S rows rs) b := by
    intro q row b o hq hm hn ⟨r, row2, o2, hr, h1, h2, h3⟩
    obtain ⟨j, hj⟩ := List.getElem?_of_mem hr
    have hne : r ≠ q := fun e => hn j (lt_of_get hj) (by rw [hj, e])
    exact inv.apart r q row2 row b o2 b o hne h1 hq h2 h3 hm rfl
  -- rows2 may be shorter than rs: then the rest stays; but a row of rs that stays must not have been written: excluded by the length
  have hlen2 : rs.length ≤ rows2.length ∨ ∃ j, rows2.length ≤ j ∧ j < rs.length := by
    rcases Nat.lt_or_ge rows2.length rs.length with h1 | h1
    · exact .inr ⟨rows2.length, Nat.le_refl _, h1⟩
    · exact .inl h1
  have full : rs.length ≤ rows2.length := by
    rcases hlen2 with h1 | ⟨j, h1, h2⟩
    · exact h1
    · obtain ⟨_, b, o, _, _, h3⟩ := old j rs[j] (List.getElem?_eq_getElem h2)
      rw [i2.none j h1] at h3; cases h3
  have hmove : ∀ (b o : Nat) (row row' : Row), moveRow (fun j => rs[j]?) (some row) = some (.live row') → RowRel m' S' w' b o row → RowRel m S' w' b o row' ∧ row'.rw = row.rw :=
    fun b o row row' h1 h2 => moveRow_by (fun r j hj => hback r j hj) h1 h2
  refine ⟨⟨fun r hr => inv.none r (by rw [hl3] at hr; exact hr), fun r hr => ?_, fun r row hr => ?_, fun r b o hm => Nat.lt_of_lt_of_le (inv.bnd r b o hm) i2.grow, fun r row b o hr hw hm => ?_,
    fun r r' row row' b o b' o' hne hr hr' hw hm hmm => ?_, fun r row b o hr hw hm => ?_, fun r row b o hr hw hm => ?_, i2.sbnd, fun b hb => ?_, fun b hb => i2.stb b (inv.stb b hb), i2.os.trans inv.os, i2.tape.trans inv.tape,
    i2.output.trans inv.output, Nat.le_trans inv.grow i2.grow, fun b hb hn => ?_⟩, ext, hback⟩
  · rcases cases3 r _ hr with ⟨h1, _⟩ | ⟨j, y, _, _, ⟨_, _, _, _, h5⟩ | ⟨_, h5⟩⟩
    · exact inv.fre r h1
    · cases h5
    · cases h5
  · rcases cases3 r _ hr with ⟨h1, h2⟩ | ⟨j, y, h1, h2, ⟨row0, row', e1, e2, e3⟩ | ⟨_, h5⟩⟩
    · obtain ⟨b, o, hm, hrel⟩ := inv.row r row h1
      exact ⟨b, o, hm, hrel.ext ext (heapS b (inv.bnd r b o hm) (notOwn r row b o h1 hm (fun j hj => h2 j (by omega))))⟩
    · cases e3
      subst e1
      obtain ⟨b, o, hm, hrel⟩ := i2.row j row0 h2
      exact ⟨b, o, by rw [hback j r h1]; exact hm, (hmove b o row0 row e2 hrel).1⟩
    · cases h5
  · rcases cases3 r _ hr with ⟨h1, _⟩ | ⟨j, y, h1, h2, ⟨row0, row', e1, e2, e3⟩ | ⟨_, h5⟩⟩
    · exact inv.new r row b o h1 hw hm
    · cases e3
      subst e1
      obtain ⟨b1, o1, hm1, hrel⟩ := i2.row j row0 h2
      have hrw := (hmove b1 o1 row0 row e2 hrel).2
      rcases i2.new j row0 b o h2 (by rw [← hrw]; exact hw) (by rw [← hback j r h1]; exact hm) with h3 | h3
      · exact .inl (Nat.le_trans inv.grow h3)
      · exact ownOK b h3
    · cases h5
  · have rwOf : ∀ (r : Nat) (row : Row), rows3[r]? = some (Slot.live row) → (rows[r]? = some (Slot.live row) ∧ ∀ j, j < rows2.length → rs[j]? ≠ some r) ∨ ∃ (j : Nat) (row0 : Row), rs[j]? = some r ∧ rows2[j]? = some (Slot.live row0) ∧ row0.rw = row.rw := by
      intro r row hr
      rcases cases3 r _ hr with h1 | ⟨j, y, h1, h2, ⟨row0, row', e1, e2, e3⟩ | ⟨_, h5⟩⟩
      · exact .inl h1
      · cases e3
        subst e1
        obtain ⟨b1, o1, hm1, hrel⟩ := i2.row j row0 h2
        exact .inr ⟨j, row0, h1, h2, (hmove b1 o1 row0 row e2 hrel).2.symm⟩
      · cases h5
    rcases rwOf r row hr with ⟨a1, a2⟩ | ⟨j, row0, a1, a2, a3⟩ <;> rcases rwOf r' row' hr' with ⟨c1, c2⟩ | ⟨j', row1, c1, c2, c3⟩
    · exact inv.apart r r' row row' b o b' o' hne a1 c1 hw hm hmm
    · obtain ⟨rowq, bq, oq, q1, q2, q3⟩ := old j' r' c1
      rw [hmm] at q2; cases q2
      exact inv.apart r r' row rowq b o b' o' hne a1 q1 hw hm hmm
    · -- r was reached and is written; r' was not reached
      intro e
      subst e
      have hmj : m' j = some (b, o) := by rw [← hback j r a1]; exact hm
      rcases i2.new j row0 b o a2 (by rw [a3]; exact hw) hmj with h3 | h3
      · have := inv.bnd r' b o' hmm; omega
      · exact notOwn r' row' b o' c1 hmm (fun i hi => c2 i (by omega)) h3
    · refine i2.apart j j' row0 row1 b o b' o' (fun e => hne ?_) a2 c2 (by rw [a3]; exact hw) (by rw [← hback j r a1]; exact hm) (by rw [← hback j' r' c1]; exact hmm)
      subst e
      rw [a1] at c1; cases c1; rfl
  · rcases cases3 r _ hr with ⟨h1, h2⟩ | ⟨j, y, h1, h2, ⟨row0, row', e1, e2, e3⟩ | ⟨_, h5⟩⟩
    · intro hs
      rcases i2.base b hs with h3 | h3 | h3
      · exact inv.stab r row b o h1 hw hm h3
      · have := inv.bnd r b o hm; omega
      · exact notOwn r row b o h1 hm (fun j hj => h2 j (by omega)) h3
    · cases e3
      subst e1
      obtain ⟨b1, o1, hm1, hrel⟩ := i2.row j row0 h2
      have hrw := (hmove b1 o1 row0 row e2 hrel).2
      exact i2.stab j row0 b o h2 (by rw [← hrw]; exact hw) (by rw [← hback j r h1]; exact hm)
    · cases h5
  · rcases cases3 r _ hr with ⟨h1, h2⟩ | ⟨j, y, h1, h2, ⟨row0, row', e1, e2, e3⟩ | ⟨_, h5⟩⟩
    · exact ext.sub b (inv.rost r row b o h1 hw hm)
    · cases e3
      subst e1
      obtain ⟨b1, o1, hm1, hrel⟩ := i2.row j row0 h2
      have hrw := (hmove b1 o1 row0 row e2 hrel).2
      exact i2.rost j row0 b o h2 (by rw [← hrw]; exact hw) (by rw [← hback j r h1]; exact hm)
    · cases h5
  · rcases i2.base b hb with h3 | h3 | h3
    · exact inv.base b h3
    · exact .inr (.inl (Nat.le_trans inv.grow h3))
    · exact .inr (ownOK b h3)
  · have hbw : b < w.heap.size := Nat.lt_of_lt_of_le hb inv.grow
    rw [heapS b hbw (fun hc => by rcases ownOK b hc with h1 | h1; omega; exact hn h1)]
    exact inv.kept b hb hn

/-- a call by its contract -/
theorem Ends.callW {c : SCfg} (hc : COK c.cfg) {k : Nat} {s : AS} {Q : V → Rows → Prop} {g : FuncId} {as : List V} {rowsC : Rows} {rs : List Nat} (hat : callAt c.cfg s = some (g, as, rowsC, rs)) {R : V → Rows → Prop}
    (hd : Does c.P g rs.length as rowsC R) (hk : ∀ v rows', R v rows' → ∃ s', backAt s rs v rows' = some s' ∧ Ends c k s' Q) : Ends c k s Q := by
  intro w0 own bt f M hb hs
  obtain ⟨hbf, m, S, w, tmps, todo, ds, ro, cs, rfl, inv, hfr, hst⟩ := hs
  have ht := hfr.todo
  unfold callAt at hat
  split at hat
  · rename_i ops i rest kk htodo
    rw [htodo] at ht
    cases ht with
    | cons hi tl =>
    rename_i kr
    cases hi
    split at hat
    · rename_i o ho
      split at hat
      · rename_i fo args hw hcv
        split at hat
        · rename_i fv vs hf hvs
          split at hat
          · rename_i g' as' hfa
            simp only at hat
            split at hat
            · rename_i hcond
              simp only [Bool.and_eq_true, decide_eq_true_eq] at hcond
              split at hat
              · rename_i asC rowsC' has hrows
                split at hat
                · rename_i hlive
                  cases hat
                  obtain ⟨asO, ats, hop, rfl⟩ := callView_spec hcv
                  have hρ := opRel_of (fn := s.fr.fn) (todo := .inRegion ops (i :: rest) :: kr) (ds := ds) (ro := ro) hfr.env
                  have hw' := wanted_rel hfr.env hw
                  obtain ⟨fs, cs', hfe, hargs⟩ := fnArgs_rel hfa (hρ fo _ hf) (args_rel hρ hvs)
                  obtain ⟨gf, h1, h2, h3⟩ := hc.rc g hcond.1
                  have hrun := run_call (P := c.P) (w := w) hop hfe h1 h2 h3
                  have hargs' : RVs (renM m (reach s.rows as')) S w as (fs ++ (asO.map (rfr s.fr.fn tmps (.inRegion ops (i :: rest) :: kr) ds ro).eval) ++ cs') := by
                    refine ⟨by rw [mapO_len has]; exact hargs.1, fun j x v hx hv => ?_⟩
                    obtain ⟨y, hy, hren⟩ := mapO_get has hx
                    exact renV_rel hren (hargs.2 j y v hy hv)
                  obtain ⟨e, w', fr, ⟨u, v, rows2, rfl, hR, m', S', i2, r2, hm', hsz⟩, hcomes, hfn, hlv⟩ := hd w (callOwn m S s.rows (reach s.rows as')) _ S w _ (call_inv inv hcond.2 hrows) hargs' (rfr s.fr.fn tmps (.inRegion ops (i :: rest) :: kr) ds ro :: cs)
                  obtain ⟨s', hs', hE⟩ := hk v rows2 hR
                  have hleave := step_leave_returned (P := c.P) (c := rfr s.fr.fn tmps (.inRegion ops (i :: rest) :: kr) ds ro) (cs := cs) hlv
                  rw [finish_rfr ho] at hleave
                  unfold backAt at hs'
                  rw [htodo] at hs'
                  simp only at hs'
                  rw [ho] at hs'
                  simp only at hs'
                  split at hs'
                  · rename_i v' rows3 hv' hrows3
                    cases hs'
                    obtain ⟨i3, e3, hback⟩ := back_inv inv hcond.2 hrows hlive i2 hm' hsz hrows3
                    have r3 : RV m S' w' v' u := renV_by (fun r j hj => hback r j hj) hv' r2
                    have hsim : SimF c.P w0 own bt f { s with fr := { s.fr with env := setTmp s.fr.env o.dst v', todo := .it (.inRegion ops rest) :: kk }, rows := rows3 } (lone (rfr s.fr.fn (putT tmps o.dst u) (.inRegion ops rest :: kr) ds ro) cs w') := by
                      refine ⟨?_, m, S', w', _, _, ds, ro, cs, rfl, i3, ⟨putT_rel (hfr.env.ext e3) r3 o.dst, .cons rfl (tl.mono e3.map), hfr.ds.mono e3.map, hfr.ro.mono e3.map⟩, hst.ext e3⟩
                      show botFn _ s.stack = f
                      rw [botFn_eq] at hbf ⊢
                      exact hbf
                    obtain ⟨vE, rowsE, hQ, hF⟩ := hE w0 own bt f _ hb hsim
                    exact ⟨vE, rowsE, hQ, hF.of_steps (Steps.head (m_enter ho hw' (isNotDefer hcv) hrun) (Steps.trans hcomes (.one hleave)))⟩
                  · cases hs'
                · cases hat
              · cases hat
            · cases hat
          · cases hat
        · cases hat
      · cases hat
    · cases hat
  · cases hat

end Go.Aev
end
/- AevSym5 -/
section
/- Slices as lists in the contracts of reading calls. -/
namespace Go.Aev

variable {w0 : World} {own : Own} {m : Mp} {S : Nat → Prop} {w : World} {rows : Rows}

/-- a slice of a row that is only read, as a list -/
theorem sl_list (inv : Inv w0 own m S w rows) {r k off len c : Nat} {ex : Bool} {es : List D} {u : Value} (hr : rows[r]? = some (Slot.live (.dat k es true))) (hle : off + len ≤ es.length) (hv : RV m S w (.sl r k off len c ex) u) :
    RD S w (.list ((es.drop off).take len)) u := by
  cases hv with
  | sl r k off len c ex b o c' p hm hl hc he hp hb =>
  have hrel := live_rel inv hr hm
  have h3 : S b := inv.rost r _ b o hr rfl hm
  by_cases hz : len = 0
  · subst hz; simp; exact .emp _ _
  · have hp' : p = some ⟨b, o + off * k, none⟩ := by
      rcases hp with hp | hp
      · omega
      · exact hp
    subst hp'
    obtain ⟨cs, t, e1, e2, en, e3⟩ := hrel
    have key : ∀ (j : Nat) (d : D), (flat ((es.drop off).take len))[j]? = some d → ∃ v, cl w b (o + off * k + j) = some v ∧ RD S w d v := by
      intro j d hj
      obtain ⟨v, hv, hrd⟩ := e3 _ d (flat_take_drop e2 off len j d hj)
      exact ⟨v, by rw [cl_cells e1, ← hv]; congr 1; omega, hrd⟩
    refine .row _ b (o + off * k) c' k len (fun j => (cl w b (o + off * k + j)).getD undef) (by simp; omega) hl h3 (fun e he => e2 e (mem_take_drop he)) (fun d hd => en d (flat_mem_sub (fun e he => mem_take_drop he) hd)) (fun j d hj => ?_) (fun j d hj => ?_)
    · obtain ⟨v, hv, _⟩ := key j d hj
      simp only [hv, Option.getD_some]
    · obtain ⟨v, hv, hrd⟩ := key j d hj
      simp only [hv, Option.getD_some]
      exact hrd

/-- a slice as a list, with the conditions -/
def listOf (rows : Rows) : V → Option (List Prop × List D)
  | .nil => some ([], [])
  | .d (.list es) => some ([], es)
  | .sl r k off len _ _ => match liveAt rows r with
    | some (.dat k' es true) => some ([k = k' ∧ off + len ≤ es.length], (es.drop off).take len)
    | _ => none
  | _ => none

theorem listOf_rel (inv : Inv w0 own m S w rows) {v : V} {ps : List Prop} {es : List D} {u : Value} (h : listOf rows v = some (ps, es)) (hp : AllP ps) (hv : RV m S w v u) : RD S w (.list es) u := by
  unfold listOf at h
  split at h
  · cases h; cases hv; exact .emp _ _
  · cases h; exact RV_d_inv hv
  · split at h
    · rename_i k' es' hl
      cases h
      obtain ⟨⟨rfl, hle⟩, _⟩ := hp
      exact sl_list inv (liveAt_ok rows _ _ hl) hle hv
    · cases h
  · cases h

theorem Inv.nothing (inv : Inv w0 own m S w rows) : Inv w0 own (fun _ => Option.none) S w [] :=
  ⟨fun _ _ => rfl, fun r h => (by simp at h), fun r row h => (by simp at h), fun r b o h => (by cases h), fun r row b o h => (by simp at h), fun r r' row row' b o b' o' _ h => (by simp at h), fun r row b o h => (by simp at h),
    fun r row b o h => (by simp at h), inv.sbnd, inv.base, inv.stb, inv.os, inv.tape, inv.output, inv.grow, inv.kept⟩

/-- an argument, and what the contract says of it: data, or a slice as a list -/
inductive ArgRel (rows : Rows) : V → V → Prop
  | data (x : D) : ArgRel rows (.d x) (.d x)
  | list {v : V} {ps : List Prop} {es : List D} (h : listOf rows v = some (ps, es)) (hp : AllP ps) : ArgRel rows v (.d (.list es))

inductive ArgsRel (rows : Rows) : List V → List V → Prop
  | nil : ArgsRel rows [] []
  | cons {a b l r} (h : ArgRel rows a b) (t : ArgsRel rows l r) : ArgsRel rows (a :: l) (b :: r)

theorem ArgsRel.rel (inv : Inv w0 own m S w rows) {m' : Mp} {a b : List V} (h : ArgsRel rows a b) : ∀ {vs : Array Value}, RVs m S w a vs → RVs m' S w b vs := by
  intro vs hv
  have hl : a.length = b.length := by
    induction h with
    | nil => rfl
    | cons _ _ ih => rename_i x y l r hx ht; simp only [List.length_cons]; exact congrArg (· + 1) (by
        clear hv
        have : ∀ {l r : List V}, ArgsRel rows l r → l.length = r.length := by
          intro l r h
          induction h with
          | nil => rfl
          | cons _ _ ih => simp [ih]
        exact this ht)
  have key : ∀ {a b : List V}, ArgsRel rows a b → ∀ (j : Nat) (y : V), b[j]? = some y → ∃ x, a[j]? = some x ∧ ArgRel rows x y := by
    intro a b h
    induction h with
    | nil => intro j y hy; simp at hy
    | cons h1 _ ih =>
      intro j y hy
      cases j with
      | zero => simp at hy; subst hy; exact ⟨_, rfl, h1⟩
      | succ j => simp only [List.getElem?_cons_succ] at hy ⊢; exact ih j y hy
  refine ⟨by rw [← hl]; exact hv.1, fun j y u hy hu => ?_⟩
  obtain ⟨x, hx, hr⟩ := key h j y hy
  have := hv.2 j x u hx hu
  cases hr with
  | data x => exact .d _ _ (RV_d_inv this)
  | list h hp => exact .d _ _ (listOf_rel inv h hp this)

/-- a contract over lists serves for slices -/
theorem RCs.of_lists {P : Program} {g : FuncId} {args args' : List V} {v : V} (h : RCs P g args' [] v) (ha : ArgsRel rows args args') : RCs P g args rows v := by
  intro w0 own m S w vs inv hro hv
  exact h w0 own (fun _ => none) S w vs inv.nothing (fun r row h => (by simp at h)) (ha.rel inv hv)

/-- a run up to a place, and the state there by new numbers -/
noncomputable def sTurn (c : SCfg) (h : Hint) (stop : AS → Bool) (n k : Nat) (rs keep : List Nat) (s : AS) : List Prop × Option AS :=
  match sTo c h stop n s with
  | (ps, .next s1) => (ps, moveAS k rs keep s1)
  | (ps, _) => (ps, none)

theorem Ends.turn {c : SCfg} {k : Nat} {s s' : AS} {Q : V → Rows → Prop} (hc : COK c.cfg) (h : Hint) (stop : AS → Bool) (n : Nat) (rs keep : List Nat) {ps : List Prop} (e : sTurn c h stop n k rs keep s = (ps, some s')) (hp : AllP ps) (hk : Ends c k s' Q) : Ends c k s Q := by
  unfold sTurn at e
  split at e
  · rename_i ps1 s1 h1
    injection e with e1 e2
    subst e1
    exact Ends.to hc h stop n h1 hp (Ends.move rs keep e2 hk)
  · injection e with _ e2
    cases e2

/-- integers -/
def ints (l : List Int) : List D := l.map (D.int .i64)
def unI : D → Int
  | .int _ n => n
  | _ => 0

theorem ints_len (l : List Int) : (ints l).length = l.length := by simp [ints]
theorem ints_get {l : List Int} {i : Nat} (h : i < l.length) : (ints l)[i]? = some (.int .i64 (l.getD i 0)) := by
  simp [ints, h]
theorem unI_ints (l : List Int) : (ints l).map unI = l := by
  induction l with
  | nil => rfl
  | cons a l ih => simp only [ints, List.map_cons, unI] at ih ⊢; rw [ih]
theorem ints_take (l : List Int) (n : Nat) : (ints l).take n = ints (l.take n) := by simp [ints, List.map_take]
theorem ints_drop (l : List Int) (n : Nat) : (ints l).drop n = ints (l.drop n) := by simp [ints, List.map_drop]
theorem ints_append (a b : List Int) : ints a ++ ints b = ints (a ++ b) := by simp [ints]
theorem ints_all (l : List Int) : (ints l).all (fun e => e.cells.length == 1) = true := by simp [ints, D.cells]

end Go.Aev
end
