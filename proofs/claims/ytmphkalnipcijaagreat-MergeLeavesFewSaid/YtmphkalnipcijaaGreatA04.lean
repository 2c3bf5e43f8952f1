/- Lemmas for the statements of this seat: an abstract machine that the model follows, and contracts of functions. Conditions: none. -/
import Derived.Test.YtmphkalnipcijaaGreatA03
import Derived.ChangeKeysEq
set_option linter.unusedVariables false
set_option linter.unusedSimpArgs false
/- AevKey -/
section
/- Maps with keys that are arrays of cells. -/
namespace Go.Aev

variable {P : Program} {T : TypeId → Option Ty} {w0 : World} {own : Own} {m : Mp} {S : Nat → Prop} {w : World} {rows : Rows} {g : Look}

theorem equalIn_now {n : Nat} {e : TypeId} {z : Ty} {a b : Value} {r : Bool} (hz : tyOf P e = some z) (h : Instr.sameNow z.desc a b = some r) : (Op.equalIn (n + 1) e a b).run P w = .ok r w := by
  have hu := run_und (w := w) hz
  rw [Op.equalIn]
  simp only [Sem.run_bind, hu, Result.andThen_ok]
  generalize z.desc = d at h
  unfold Instr.sameNow at h
  split at h
  · split at h
    · rename_i hk; cases h; simp [hk]
    · cases h
  · cases h; rfl
  · cases h; rfl
  · cases h

theorem part_atom {e : TypeId} {z : Ty} {k : D} {xs : Array Value} {off : Nat} {v : Value} (hz : tyOf P e = some z) (ha : atomKey z.desc k = true) (hx : xs[off]? = some v) : (part e xs off).run P w = .ok v w := by
  have hu := run_und (w := w) hz
  generalize z.desc = d at ha hu
  have hi : (isAgg e).run P w = .ok false w := by
    simp only [isAgg, Sem.run_bind, hu, Result.andThen_ok]
    cases d <;> cases k <;> first | rfl | simp [atomKey] at ha
  simp only [part, Sem.run_bind, hi, Result.andThen_ok, Bool.false_eq_true, if_false, hx, Sem.run_pure]


/-- data at a place of an array -/
def RDat (S : Nat → Prop) (w : World) (off : Nat) (xs : List D) (A : Array Value) : Prop := ∀ (j : Nat) (x : D), xs[j]? = some x → ∃ v, A[off + j]? = some v ∧ RD S w x v

theorem RDat.tail {off : Nat} {x : D} {xs : List D} {A : Array Value} (h : RDat S w off (x :: xs) A) : RDat S w (off + 1) xs A := fun j y hy => by
  obtain ⟨v, h1, h2⟩ := h (j + 1) y (by simpa using hy)
  exact ⟨v, by rw [show off + 1 + j = off + (j + 1) by omega]; exact h1, h2⟩

theorem sameD_key {d : TypeDesc} {x y : D} {r : Bool} (h : sameD x y = some r) (ha : atomKey d x = true) : atomKey d y = true := by
  unfold sameD at h
  split at h <;> first | (cases h; done) | (cases d <;> first | rfl | (simp [atomKey] at ha))

theorem eqItems_run {n : Nat} {e : TypeId} {z : Ty} (hz : tyOf P e = some z) {A B : Array Value} : ∀ {xs ys : List D} {off : Nat} {b : Bool}, sameDs xs ys = some b → (∀ x ∈ xs, atomKey z.desc x = true) →
    RDat S w off xs A → RDat S w off ys B → (Op.eqItems (n + 1) e 1 A B (List.range' off xs.length)).run P w = .ok b w
  | [], [], off, b, h, _, _, _ => by
    simp only [sameDs, Option.some.injEq] at h; subst h
    simp [Op.eqItems]
  | x :: xs, y :: ys, off, b, h, hx, ha, hb => by
    obtain ⟨u, a1, a2⟩ := ha 0 x rfl
    obtain ⟨v, b1, b2⟩ := hb 0 y rfl
    rw [Nat.add_zero] at a1 b1
    have pa := part_atom (w := w) hz (hx x (by simp)) (xs := A) (off := off * 1) (by rw [Nat.mul_one]; exact a1)
    have hy : atomKey z.desc y = true := by
      simp only [sameDs] at h
      cases hs : sameD x y with
      | none => rw [hs] at h; cases h
      | some r => exact sameD_key hs (hx x (by simp))
    have pb := part_atom (w := w) hz hy (xs := B) (off := off * 1) (by rw [Nat.mul_one]; exact b1)
    rw [List.length_cons, List.range'_succ]
    simp only [sameDs] at h
    split at h
    · rename_i hs
      have he := equalIn_now (n := n) (w := w) hz (sameD_now hs (hx x (by simp)) a2 b2)
      have ih := eqItems_run (n := n) hz h (fun z hz => hx z (by simp [hz])) ha.tail hb.tail
      simp only [Op.eqItems, Sem.run_bind, pa, pb, he, Result.andThen_ok, Bool.not_true, Bool.false_eq_true, if_false]
      exact ih
    · rename_i hs
      cases h
      have he := equalIn_now (n := n) (w := w) hz (sameD_now hs (hx x (by simp)) a2 b2)
      simp only [Op.eqItems, Sem.run_bind, pa, pb, he, Result.andThen_ok, Bool.not_false, if_true, Sem.run_pure]
    · cases h
  | [], _ :: _, _, _, h, _, _, _ => by simp [sameDs] at h
  | _ :: _, [], _, _, h, _, _, _ => by simp [sameDs] at h

/-- an array of n cells as a key -/
def arrKey (T : TypeId → Option Ty) (d : TypeDesc) (k : D) : Bool :=
  match d, k with
  | .array n e, .agg xs => match T e with
    | some z => z.size == 1 && xs.length == n && xs.all (atomKey z.desc)
    | none => false
  | _, _ => false

theorem RD_agg_inv {xs : List D} {v : Value} (h : RD S w (.agg xs) v) : ∃ A : Array Value, v = .agg A ∧ A.size = xs.length ∧ RDat S w 0 xs A := by
  cases h with
  | agg _ A hlen hd =>
    refine ⟨A, rfl, hlen, fun j x hx => ?_⟩
    have hj : j < A.size := by rw [hlen]; exact (List.getElem?_eq_some_iff.1 hx).1
    exact ⟨A[j], by rw [Nat.zero_add, Array.getElem?_eq_getElem hj], hd j x _ hx (Array.getElem?_eq_getElem hj)⟩

theorem info_of {t : TypeId} {y : Ty} (h : tyOf P t = some y) : ∃ i, P.info? t = some i ∧ i.size = y.size := by
  unfold tyOf at h
  split at h
  · rename_i d i h1 h2
    split at h
    · split at h
      · cases h; exact ⟨i, h2, rfl⟩
      · cases h
    · cases h
  · cases h

theorem equal_arr (hT : TOK P T) {kt : TypeId} {z : Ty} {xs ys : List D} {a b : Value} {r : Bool} (hz : tyOf P kt = some z) (hx : arrKey T z.desc (.agg xs) = true)
    (h : sameDs xs ys = some r) (ha : RD S w (.agg xs) a) (hb : RD S w (.agg ys) b) : (Op.equal kt a b).run P w = .ok r w := by
  obtain ⟨A, rfl, _, hA⟩ := RD_agg_inv ha
  obtain ⟨B, rfl, _, hB⟩ := RD_agg_inv hb
  have hu : P.underlying kt = some z.desc := by
    unfold tyOf at hz
    split at hz
    · rename_i d i h1 h2
      split at hz
      · split at hz
        · cases hz; exact h1
        · cases hz
      · cases hz
    · cases hz
  unfold arrKey at hx
  split at hx
  · rename_i n e xs' hd heq
    cases heq
    rw [hd] at hu
    split at hx
    · rename_i ez hez
      simp only [Bool.and_eq_true, beq_iff_eq] at hx
      obtain ⟨⟨h1, h2⟩, h3⟩ := hx
      obtain ⟨i, hi, hsz⟩ := info_of (hT e ez hez)
      have hc : P.cellsOf e = 1 := by
        simp [Program.cellsOf, hi, hsz, h1]
      rw [Op.equal, show Op.maxDepth = 9999 + 1 from rfl, run_equalIn_array w 9999 A B hu hi, hc, List.range_eq_range', ← h2]
      exact eqItems_run (n := 9998) (hT e ez hez) h (fun x hx => (List.all_eq_true.1 h3) x hx) hA hB
    · cases hx
  · cases hx


def keyOK (T : TypeId → Option Ty) (d : TypeDesc) (k : D) : Bool := atomKey d k || arrKey T d k

/-- what a key answers -/
structure KeyFacts (P : Program) (m : Mp) (S : Nat → Prop) (w : World) (kt : TypeId) (kd : D) (kv : Value) : Prop where
  check : ∀ e, (Instr.checkKey e 10000 kt kv).run P w = .ok () w
  find : ∀ {es : List (D × V)} {xs : List MapEntry} {r : Option (Nat × V)}, EntRel m S w es xs → findD kd es 0 = some r → ∃ r', (Instr.findKey kt kv xs).run P w = .ok r' w ∧ (r = none → r' = none) ∧
    ∀ j v, r = some (j, v) → ∃ u x, r' = some (j, u) ∧ RV m S w v u ∧ xs[j]? = some x ∧ (Instr.keyThatStays x.key kv).run P w = .ok kv w

theorem key_atom {kt : TypeId} {z : Ty} {kd : D} {kv : Value} (hz : tyOf P kt = some z) (ha : atomKey z.desc kd = true) (hk : RD S w kd kv) : KeyFacts P m S w kt kd kv := by
  refine ⟨fun e => checkKey_atom (n := 9999) hz ha hk, fun {es xs r} he h => ?_⟩
  obtain ⟨r', f1, f2, f3⟩ := findD_now ha hk he h
  refine ⟨r', findKey_run hz f1, f2, fun j v hj => ?_⟩
  obtain ⟨u, x, g1, g2, _, g4, g5⟩ := f3 j v hj
  exact ⟨u, x, g1, g2, by simpa using g4, by simp only [Instr.keyThatStays, sameBits_now g5, if_true, Sem.run_pure]⟩

theorem checkItems {n : Nat} {e : TypeId} {z : Ty} {em : Bool} (hz : tyOf P e = some z) (h1 : z.size = 1) {A : Array Value} : ∀ {xs : List D} {off : Nat}, (∀ x ∈ xs, atomKey z.desc x = true) → RDat S w off xs A →
    (forIn (List.range' off xs.length) () (fun i (_ : Unit) => do
      Instr.checkKey em (n + 1) e (← part e A (i * (← sizeOf e)))
      pure (ForInStep.yield ()) : Nat → Unit → Sem (ForInStep Unit))).run P w = .ok () w
  | [], off, _, _ => by simp
  | x :: xs, off, hx, ha => by
    obtain ⟨u, a1, a2⟩ := ha 0 x rfl
    rw [Nat.add_zero] at a1
    obtain ⟨i, hi, hsz⟩ := info_of hz
    have hs : (sizeOf e).run P w = .ok 1 w := by
      rw [run_sizeOf w hi]; simp [Program.cellsOf, hi, hsz, h1]
    have pa := part_atom (w := w) hz (hx x (by simp)) (xs := A) (off := off * 1) (by rw [Nat.mul_one]; exact a1)
    have hc := checkKey_atom (e := em) (n := n) (w := w) hz (hx x (by simp)) a2
    have ih := checkItems (n := n) (em := em) hz h1 (fun y hy => hx y (by simp [hy])) ha.tail
    rw [List.length_cons, List.range'_succ, List.forIn_cons]
    simp only [Sem.run_bind, hs, pa, hc, Result.andThen_ok, Sem.run_pure] at ih ⊢
    exact ih


theorem sameDs_get : ∀ {xs ys : List D}, sameDs xs ys = some true → xs.length = ys.length ∧ ∀ (j : Nat) (x y : D), xs[j]? = some x → ys[j]? = some y → sameD x y = some true
  | [], [], _ => ⟨rfl, fun j x y h => by simp at h⟩
  | x :: xs, y :: ys, h => by
    simp only [sameDs] at h
    split at h
    · rename_i hs
      obtain ⟨h1, h2⟩ := sameDs_get h
      refine ⟨by simp [h1], fun j a b ha hb => ?_⟩
      cases j with
      | zero => simp at ha hb; subst ha; subst hb; exact hs
      | succ j => exact h2 j a b (by simpa using ha) (by simpa using hb)
    · cases h
    · cases h
  | [], _ :: _, h => by simp [sameDs] at h
  | _ :: _, [], h => by simp [sameDs] at h

theorem sameBits_arr {n : Nat} {d : TypeDesc} {xs ys : List D} {A B : Array Value} (h : sameDs xs ys = some true) (hx : ∀ x ∈ xs, atomKey d x = true) (hA : A.size = xs.length) (hB : B.size = ys.length)
    (ha : RDat S w 0 xs A) (hb : RDat S w 0 ys B) : Instr.sameBits (n + 1) (.agg B) (.agg A) = true := by
  obtain ⟨h1, h2⟩ := sameDs_get h
  simp only [Instr.sameBits, Bool.and_eq_true, beq_iff_eq]
  refine ⟨by omega, List.all_eq_true.2 fun p hp => ?_⟩
  obtain ⟨j, hj⟩ := List.mem_iff_getElem?.1 hp
  rw [List.getElem?_zip_eq_some] at hj
  obtain ⟨e1, e2⟩ := hj
  rw [Array.getElem?_toList] at e1 e2
  have hjl : j < xs.length := by rw [← hA]; exact (Array.getElem?_eq_some_iff.1 e2).1
  have hjl' : j < ys.length := by omega
  obtain ⟨u, u1, u2⟩ := ha j _ (List.getElem?_eq_getElem hjl)
  obtain ⟨v, v1, v2⟩ := hb j _ (List.getElem?_eq_getElem hjl')
  rw [Nat.zero_add] at u1 v1
  rw [u1] at e2; rw [v1] at e1
  cases e1; cases e2
  have hs := h2 j _ _ (List.getElem?_eq_getElem hjl) (List.getElem?_eq_getElem hjl')
  exact sameBits_now (sameD_now hs (hx _ (List.getElem_mem hjl)) u2 v2)

theorem findAsk (hT : TOK P T) {kt : TypeId} {z : Ty} {ks : List D} {kv : Value} (hz : tyOf P kt = some z) (ha : arrKey T z.desc (.agg ks) = true) (hk : RD S w (.agg ks) kv) : ∀ {es : List (D × V)} {xs : List MapEntry} {i : Nat} {r : Option (Nat × V)},
    EntRel m S w es xs → findD (.agg ks) es i = some r → ∃ r', (Instr.findAsking kt kv xs i).run P w = .ok r' w ∧ (r = none → r' = none) ∧
      ∀ j v, r = some (j, v) → ∃ u x, r' = some (j, u) ∧ RV m S w v u ∧ i ≤ j ∧ xs[j - i]? = some x ∧ (Instr.keyThatStays x.key kv).run P w = .ok kv w
  | [], [], i, r, _, h => by
    simp only [findD, Option.some.injEq] at h; subst h
    exact ⟨none, by simp [Instr.findAsking], fun _ => rfl, fun j v h => by cases h⟩
  | (k', v) :: es, x :: xs, i, r, he, h => by
    obtain ⟨⟨h1, h2⟩, h3⟩ := he
    cases k' with
    | agg ys =>
      simp only [findD, sameK] at h
      split at h
      · rename_i hs
        cases h
        have hn := equal_arr (w := w) hT hz ha hs hk h1
        refine ⟨some (i, x.val), by simp only [Instr.findAsking, Sem.run_bind, hn, Result.andThen_ok, if_true, Sem.run_pure], fun h => (by cases h), fun j v h => ?_⟩
        cases h
        refine ⟨x.val, x, rfl, h2, Nat.le_refl _, by simp, ?_⟩
        obtain ⟨A, rfl, hA, hA'⟩ := RD_agg_inv hk
        generalize x.key = q at h1
        obtain ⟨B, rfl, hB, hB'⟩ := RD_agg_inv h1
        unfold arrKey at ha
        split at ha
        · rename_i n e xs' hd heq
          cases heq
          split at ha
          · rename_i ez hez
            simp only [Bool.and_eq_true, beq_iff_eq] at ha
            have := sameBits_arr (n := 9999) hs (fun x hx => (List.all_eq_true.1 ha.2) x hx) hA hB hA' hB'
            simp only [Instr.keyThatStays, this, if_true, Sem.run_pure]
          · cases ha
        · cases ha
      · rename_i hs
        have hn := equal_arr (w := w) hT hz ha hs hk h1
        obtain ⟨r', e1, e2, e3⟩ := findAsk hT hz ha hk h3 h
        refine ⟨r', by simp only [Instr.findAsking, Sem.run_bind, hn, Result.andThen_ok, Bool.false_eq_true, if_false, e1], e2, fun j v h => ?_⟩
        obtain ⟨u, y, f1, f2, f3, f4, f5⟩ := e3 j v h
        refine ⟨u, y, f1, f2, by omega, ?_, f5⟩
        have : j - i = (j - (i + 1)) + 1 := by omega
        rw [this, List.getElem?_cons_succ]; exact f4
      · cases h
    | _ => simp [findD, sameK, sameD] at h
  | [], _ :: _, _, _, he, _ => he.elim
  | _ :: _, [], _, _, he, _ => he.elim

theorem key_arr (hT : TOK P T) {kt : TypeId} {z : Ty} {ks : List D} {kv : Value} (hz : tyOf P kt = some z) (ha : arrKey T z.desc (.agg ks) = true) (hk : RD S w (.agg ks) kv) : KeyFacts P m S w kt (.agg ks) kv := by
  have hu := run_und (w := w) hz
  refine ⟨fun em => ?_, fun {es xs r} he h => ?_⟩
  · obtain ⟨A, rfl, hA, hA'⟩ := RD_agg_inv hk
    unfold arrKey at ha
    split at ha
    · rename_i n e xs' hd heq
      cases heq
      split at ha
      · rename_i ez hez
        simp only [Bool.and_eq_true, beq_iff_eq] at ha
        obtain ⟨⟨h1, h2⟩, h3⟩ := ha
        rw [hd] at hu
        have hl := checkItems (n := 9998) (em := em) (w := w) (hT e ez hez) h1 (fun x hx => (List.all_eq_true.1 h3) x hx) hA'
        rw [Instr.checkKey]
        simp only [Sem.run_bind, hu, Result.andThen_ok]
        simp only [Std.Legacy.Range.forIn_eq_forIn_range', Std.Legacy.Range.size, Nat.sub_zero, Nat.add_one_sub_one, Nat.div_one]
        rw [← h2]
        simp at hl ⊢
        exact (congrArg (fun r => Result.andThen r _) hl).trans rfl
      · cases ha
    · cases ha
  · obtain ⟨r', f1, f2, f3⟩ := findAsk hT hz ha hk he h
    refine ⟨r', ?_, f2, fun j v hj => ?_⟩
    · have hd : ∃ n e, z.desc = .array n e := by
        unfold arrKey at ha
        split at ha
        · rename_i n e _ hd _; exact ⟨n, e, hd⟩
        · cases ha
      obtain ⟨n, e, hd⟩ := hd
      rw [hd] at hu
      cases xs with
      | nil =>
        simp only [Instr.findAsking, Sem.run_pure, Result.ok.injEq, and_true] at f1
        subst f1
        simp only [Instr.findKey, Sem.run_bind, hu, Result.andThen_ok, Instr.findNow, Sem.run_pure]
      | cons x xs =>
        have : Instr.findNow (.array n e) kv (x :: xs) 0 = none := by simp [Instr.findNow, Instr.sameNow]
        simp only [Instr.findKey, Sem.run_bind, hu, Result.andThen_ok, this]
        exact f1
    · obtain ⟨u, x, g1, g2, _, g4, g5⟩ := f3 j v hj
      exact ⟨u, x, g1, g2, by simpa using g4, g5⟩

theorem key_facts (hT : TOK P T) {kt : TypeId} {z : Ty} {kd : D} {kv : Value} (hz : tyOf P kt = some z) (ha : keyOK T z.desc kd = true) (hk : RD S w kd kv) : KeyFacts P m S w kt kd kv := by
  simp only [keyOK, Bool.or_eq_true] at ha
  rcases ha with ha | ha
  · exact key_atom hz ha hk
  · cases kd with
    | agg ks => exact key_arr hT hz ha hk
    | _ => unfold arrKey at ha; split at ha <;> first | (rename_i h; cases h) | cases ha

def lookupA (T : TypeId → Option Ty) (g : Look) (t : TypeId) (x k : V) (ok : Bool) : Option V :=
  match T t, k with
  | some y, .d kd => match y.desc with
    | .map kt et => match T kt, T et, mapRow g x with
      | some kz, some ez, some es => if keyOK T kz.desc kd then match findD kd es 0, ofVal ez.zero with
          | some (some (_, v)), _ => some (if ok then .tup [v, .d (.bool true)] else v)
          | some none, some z => some (if ok then .tup [z, .d (.bool false)] else z)
          | _, _ => none
        else none
      | _, _, _ => none
    | _ => none
  | _, _ => none

def mapPutA (T : TypeId → Option Ty) (g : Look) (t : TypeId) (x k v : V) : Option Res :=
  match T t, x, k with
  | some y, .mp r, .d kd => match y.desc, g r with
    | .map kt _, some (.map es c false) => match T kt with
      | some kz => if keyOK T kz.desc kd && mapVal v then match findD kd es 0 with
          | some (some (i, _)) => some { v := V.undef, ups := [(r, .live (.map (es.set i (kd, v)) c false))] }
          | some none => some { v := V.undef, ups := [(r, .live (.map (es ++ [(kd, v)]) (c + 1) false))] }
          | none => none
        else none
      | none => none
    | _, _ => none
  | _, _, _ => none


theorem lookupA_sound (hT : TOK P T) (hg : GOK g rows) (inv : Inv w0 own m S w rows) {t : TypeId} {x k v : V} {ok : Bool} {xr kr : Value} (h : lookupA T g t x k ok = some v) (hx : RV m S w x xr) (hk : RV m S w k kr) :
    ∃ u, (Instr.lookup t xr kr ok).run P w = .ok u w ∧ RV m S w v u := by
  unfold lookupA at h
  split at h
  · rename_i y kd hy
    split at h
    · rename_i kt et hd
      split at h
      · rename_i kz ez es hkz hez hes
        split at h
        · rename_i hat
          have hkd := RV_d_inv hk
          have hu := run_und (w := w) (hT t y hy)
          rw [hd] at hu
          obtain ⟨ents, e1, e2⟩ := mapRow_run hg inv hes hx
          have hkf : KeyFacts P m S w kt kd kr := key_facts hT (hT kt kz hkz) hat hkd
          have hck := hkf.check
          have hzr := run_zero (w := w) (hT et ez hez)
          split at h
          · rename_i i v' hf
            obtain ⟨r', f1, _, f3⟩ := hkf.find e2 hf
            obtain ⟨u, _, rfl, f4, _⟩ := f3 _ v' rfl
            have hl := run_lookup (ok := ok) hu e1 hck f1 hzr
            cases h
            refine ⟨_, hl, ?_⟩
            cases ok
            · exact f4
            · exact tup2 f4 (.d _ _ (.bool _))
          · rename_i z hf hz
            obtain ⟨r', f1, f2, _⟩ := hkf.find e2 hf
            have := f2 rfl; subst this
            have hl := run_lookup (ok := ok) hu e1 hck f1 hzr
            have hzv := ofVal_sound (m := m) (S := S) (w := w) hz
            cases h
            refine ⟨_, hl, ?_⟩
            cases ok
            · exact hzv
            · exact tup2 hzv (.d _ _ (.bool _))
          · cases h
        · cases h
      · cases h
    · cases h
  · cases h


theorem mapPutA_sound (hT : TOK P T) (hg : GOK g rows) (inv : Inv w0 own m S w rows) {t : TypeId} {x k v : V} {xr kr vr : Value} {res : Res} (h : mapPutA T g t x k v = some res) (hx : RV m S w x xr) (hk : RV m S w k kr) (hv : RV m S w v vr) :
    ∃ w', (Instr.mapUpdate t xr kr vr).run P w = .ok () w' ∧ Inv w0 own m S w' (applyUps res.ups rows) ∧ Ext m S w m S w' ∧ res.v = V.undef ∧ res.fresh = none := by
  unfold mapPutA at h
  split at h
  · rename_i y r kd hy
    split at h
    · rename_i kt et es c hd hgr
      split at h
      · rename_i kz hkz
        split at h
        · rename_i hat0
          simp only [Bool.and_eq_true] at hat0
          have hat := hat0.1
          have hkd := RV_d_inv hk
          have hu := run_und (w := w) (hT t y hy)
          rw [hd] at hu
          have hrow := hg _ _ hgr
          obtain ⟨b, o, hm, ents, h1, h2, h3⟩ := inv.row _ _ hrow
          cases hx with
          | mp _ b' o' hm' =>
          rw [hm] at hm'; cases hm'
          have hkf : KeyFacts P m S w kt kd kr := key_facts hT (hT kt kz hkz) hat hkd
          have hck := hkf.check
          have e2 : EntRel m S w es ents.toList := entRel_of (by simpa using h2) (fun j e x a b => h3 j e x a (by simpa using b))
          have hgo := run_getObj (P := P) h1 (by simp)
          have hlt := inv.bnd r b o hm
          split at h
          · rename_i i v' hf
            obtain ⟨r', f1, _, f3⟩ := hkf.find e2 hf
            obtain ⟨u, xe, rfl, _, f5, hkt⟩ := f3 _ v' rfl
            have hfk := f1
            simp only [Array.getElem?_toList] at f5
            have hso := run_setObj (P := P) (o' := .map (ents.modify i fun e => { e with key := kr, val := vr }) c) h1 (by simp)
            obtain ⟨k1, k2⟩ := inv.writeG (w' := { w with heap := w.heap.setIfInBounds b (.map (ents.modify i fun e => { e with key := kr, val := vr }) c) }) (row' := .map (es.set i (kd, v)) c false) hrow hm rfl rfl (by simp)
              (fun c2 hc => setObj_other w b c2 _ hc) (by simp [bsize, h1]) rfl rfl rfl (fun ext => by
                refine ⟨_, setObj_same w b _ hlt, by simp [h2], fun j e x a b => ?_⟩
                rw [Array.getElem?_modify] at b
                by_cases hj : i = j
                · subst hj
                  have hi : i < es.length := by
                    have := (List.getElem?_eq_some_iff.1 a).1; simpa using this
                  rw [List.getElem?_set_self hi] at a
                  cases a
                  rw [if_pos rfl, f5] at b
                  simp only [Option.map_some, Option.some.injEq] at b
                  subst b
                  exact ⟨hkd.ext ext, hv.ext ext⟩
                · rw [List.getElem?_set_ne hj] at a
                  rw [if_neg hj] at b
                  exact ⟨(h3 j e x a b).1.ext ext, (h3 j e x a b).2.ext ext⟩)
            cases h
            refine ⟨_, ?_, k1, k2, rfl, rfl⟩
            simp only [Instr.mapUpdate, Sem.run_bind, hu, Result.andThen_ok, hgo, hck, hfk, f5, Option.map_some, Option.getD_some, hkt, hso]
          · rename_i hf
            obtain ⟨r', f1, f2, _⟩ := hkf.find e2 hf
            have := f2 rfl; subst this
            have hfk := f1
            have hso := run_setObj (P := P) (o' := .map (ents.push { key := kr, val := vr, born := c }) (c + 1)) h1 (by simp)
            obtain ⟨k1, k2⟩ := inv.writeG (w' := { w with heap := w.heap.setIfInBounds b (.map (ents.push { key := kr, val := vr, born := c }) (c + 1)) }) (row' := .map (es ++ [(kd, v)]) (c + 1) false) hrow hm rfl rfl (by simp)
              (fun c2 hc => setObj_other w b c2 _ hc) (by simp [bsize, h1]) rfl rfl rfl (fun ext => by
                refine ⟨_, setObj_same w b _ hlt, by simp [h2], fun j e x a b => ?_⟩
                rw [Array.getElem?_push] at b
                rcases Nat.lt_trichotomy j es.length with hj | hj | hj
                · rw [List.getElem?_append_left hj] at a
                  rw [if_neg (by omega)] at b
                  exact ⟨(h3 j e x a b).1.ext ext, (h3 j e x a b).2.ext ext⟩
                · subst hj
                  rw [List.getElem?_append_right (Nat.le_refl _), Nat.sub_self] at a
                  rw [if_pos h2.symm] at b
                  cases a; cases b
                  exact ⟨hkd.ext ext, hv.ext ext⟩
                · rw [List.getElem?_eq_none (by simp; omega)] at a; cases a)
            cases h
            refine ⟨_, ?_, k1, k2, rfl, rfl⟩
            simp only [Instr.mapUpdate, Sem.run_bind, hu, Result.andThen_ok, hgo, hck, hfk, hso]
          · cases h
        · cases h
      · cases h
    · cases h
  · cases h


end Go.Aev
end
/- AevAct -/
section
/- One operation: the abstract step and its soundness. -/
namespace Go.Aev

/-- a temporary that is known -/
def known : V → Option V
  | .any => none
  | v => some v

theorem known_eq {v x : V} (h : known v = some x) : x = v ∧ v ≠ .any := by
  unfold known at h
  split at h
  · cases h
  · rename_i hv; cases h; exact ⟨rfl, hv⟩

def evalO (env : List V) : Operand → Option V
  | .tmp t => known (env.getD t V.undef)
  | .const v => ofVal v
  | .global _ => none
  | .func f => some (.fn f [])

def evalOs (env : List V) : List Operand → Option (List V)
  | [] => some []
  | x :: r => match evalO env x, evalOs env r with
    | some v, some l => some (v :: l)
    | _, _ => none

def opnds : Op → List Operand
  | .move x | .assign x | .box _ x | .load _ x | .nilCheck x | .unOp _ _ x | .convert _ _ x | .fieldAddr _ x _ | .field _ x _ | .extract x _ => [x]
  | .pick c a b => [c, a, b]
  | .build _ ps | .buildSlice _ _ ps => ps.toList.map (·.2)
  | .lookup _ a v _ => [a, v]
  | .mapUpdate _ a k v | .insert _ a k v => [a, k, v]
  | .store _ a v | .binOp _ _ a v _ | .makeSlice _ a v | .indexAddr _ a v | .index _ a v => [a, v]
  | .makeFunc _ f c => f.toList ++ c.toList
  | .slice _ x l h m => x :: (l.toList ++ (h.toList ++ m.toList))
  | .call c => c.args.toList
  | _ => []

/-- the optional operands of a slice expression -/
def takeOpt (o : Option Operand) (vs : List V) : Option V × List V :=
  match o, vs with
  | some _, v :: r => (some v, r)
  | _, vs => (none, vs)

def act (T : TypeId → Option Ty) (g : Look) (slot : Nat) (o : Op) (vs : List V) : Option Res :=
  match o, vs with
  | .move _, [v] => some { v }
  | .assign _, [v] => some { v }
  | .pick _ _ _, [.d (.bool b), x, y] => some { v := if b then x else y }
  | .alloc e, [] => match T e with
    | some y => match ofVals y.zero.cells.toList with
      | some zs => some { v := .pt slot 0 0 0, fresh := some (.box zs false) }
      | none => none
    | none => none
  | .box _ _, [v] => some { v := .pt slot 0 0 0, fresh := some (.box v.cells false) }
  | .build t ps, vs => (buildA T t (ps.toList.map (·.1)) vs).map fun v => { v }
  | .buildSlice t len ps, vs => buildSliceA T g slot t len (ps.toList.map (·.1)) vs
  | .makeMap _ none, [] => some { v := .mp slot, fresh := some (.map [] 0 false) }
  | .lookup t _ _ ok, [x, k] => (lookupA T g t x k ok).map fun v => { v }
  | .mapUpdate t _ _ _, [x, k, v] => mapPutA T g t x k v
  | .insert t _ _ _, [x, k, v] => mapPutA T g t x k v
  | .load t _, [a] => (loadA T g t a).map fun v => { v }
  | .store t _ _, [a, x] => storeA T g t a x
  | .nilCheck _, [v] => match v with
    | .pt .. | .dp _ | .fn .. => some { v }
    | _ => none
  | .binOp op t _ _ _, [x, y] => (binA T op t x y).map fun v => { v }
  | .unOp op _ _, [x] => (unA op x).map fun v => { v }
  | .convert s d _, [x] => (convA T s d x).map fun v => { v }
  | .makeFunc (.func f) first caps, vs => if first.size = 0 then some { v := .fn f vs } else if caps.size = 0 then some { v := .bf f vs } else none
  | .makeSlice t _ _, [l, c] => makeSliceA T slot t l c
  | .slice t _ l h mx, x :: vs =>
    let (lo, r1) := takeOpt l vs
    let (hi, r2) := takeOpt h r1
    let (m3, _) := takeOpt mx r2
    (sliceA T g t x lo hi m3).map fun v => { v }
  | .fieldAddr s _ f, [x] => (fieldAddrA T s f x).map fun v => { v }
  | .field t _ f, [x] => (fieldA T t f x).map fun v => { v }
  | .indexAddr t _ _, [x, i] => (indexAddrA T t x i).map fun v => { v }
  | .index t _ _, [x, i] => (indexA T t x i).map fun v => { v }
  | .extract _ i, [.tup vs] => match vs[i]? with
    | some v => some { v }
    | none => none
  | .call c, vs => match c.callee with
    | .builtin .len => match c.argTypes.toList, vs with
      | [t], [x] => (lenA T t x).map fun v => { v }
      | _, _ => none
    | .builtin .cap => match c.argTypes.toList, vs with
      | [t], [x] => (capA T t x).map fun v => { v }
      | _, _ => none
    | .builtin .max => (maxA vs).map fun v => { v }
    | .builtin .min => (minA vs).map fun v => { v }
    | .builtin .append => match c.argTypes.toList, vs with
      | [t, u], [s, x] => appendA T g slot t u s x
      | _, _ => none
    | .builtin .copy => match c.argTypes.toList, vs with
      | [t, _], [d, s] => copyA T g t d s
      | _, _ => none
    | .builtin .clear => match c.argTypes.toList, vs with
      | [t], [d] => clearA T g t d
      | _, _ => none
    | _ => none
  | _, _ => none

variable {P : Program} {T : TypeId → Option Ty} {w0 : World} {own : Own} {m : Mp} {S : Nat → Prop} {w : World} {rows : Rows} {g : Look}

/-- the operands' values -/
def OpRel (m : Mp) (S : Nat → Prop) (w : World) (env : List V) (ρ : Operand → Value) : Prop := ∀ x v, evalO env x = some v → RV m S w v (ρ x)

theorem evalOs_sound {env : List V} {ρ : Operand → Value} (h : OpRel m S w env ρ) : ∀ {xs : List Operand} {vs : List V}, evalOs env xs = some vs → RVs m S w vs (xs.map ρ).toArray
  | [], vs, e => by simp [evalOs] at e; subst e; exact RVs.nil
  | x :: xs, vs, e => by
    simp only [evalOs] at e
    split at e
    · rename_i v l h1 h2
      cases e
      have ih := evalOs_sound h h2
      refine ⟨by have := ih.1; simpa using this, fun j y u hy hu => ?_⟩
      cases j with
      | zero => simp at hy hu; subst hy; subst hu; exact h x _ h1
      | succ j => simp at hy hu; exact ih.2 j y u hy (by simpa using hu)
    · cases e

/-- what one operation leaves -/
def Done (P : Program) (w0 : World) (own : Own) (m : Mp) (S : Nat → Prop) (w : World) (rows : Rows) (slot : Nat) (s : Sem Next) (res : Res) : Prop :=
  ∃ nx u w' m' S', s.run P w = .ok nx w' ∧ (nx = .value u ∨ (nx = .skip ∧ u = Go.undef)) ∧ Inv w0 own m' S' w' (applyRes slot res rows) ∧ Ext m S w m' S' w' ∧ RV m' S' w' res.v u

theorem undef_rel : RV m S w V.undef Go.undef := .tup [] #[] rfl (fun j x v h => by simp at h)

theorem Done.ofPure (inv : Inv w0 own m S w rows) {slot : Nat} {s : Sem Value} {v : V} {u : Value} (h : s.run P w = .ok u w) (hr : RV m S w v u) :
    Done P w0 own m S w rows slot (do pure (.value (← s))) { v } :=
  ⟨.value u, u, w, m, S, by simp [h], .inl rfl, inv, Ext.refl .., hr⟩

theorem Done.left {slot : Nat} {s : Sem Value} {res : Res} (h : Left P w0 own m S w rows slot s res) : Done P w0 own m S w rows slot (do pure (.value (← s))) res := by
  obtain ⟨u, w', m', S', h1, h2, h3, h4⟩ := h
  exact ⟨.value u, u, w', m', S', by simp [h1], .inl rfl, h2, h3, h4⟩

theorem get2 {x y : V} {arr : Array Value} (h : RVs m S w [x, y] arr) : ∃ a b, arr = #[a, b] ∧ RV m S w x a ∧ RV m S w y b := by
  obtain ⟨l⟩ := arr
  match l, h with
  | [a, b], h => exact ⟨a, b, rfl, h.2 0 x a rfl rfl, h.2 1 y b rfl rfl⟩
  | [], h => have := h.1; simp at this
  | [_], h => have := h.1; simp at this
  | _ :: _ :: _ :: _, h => have := h.1; simp at this

theorem get1 {x : V} {arr : Array Value} (h : RVs m S w [x] arr) : ∃ a, arr = #[a] ∧ RV m S w x a := by
  obtain ⟨l⟩ := arr
  match l, h with
  | [a], h => exact ⟨a, rfl, h.2 0 x a rfl rfl⟩
  | [], h => have := h.1; simp at this
  | _ :: _ :: _, h => have := h.1; simp at this

theorem RVs_tail {x : V} {xs : List V} {a : Value} {l : List Value} (h : RVs m S w (x :: xs) (a :: l).toArray) : RVs m S w xs l.toArray :=
  ⟨by have := h.1; simpa using this, fun j y u hy hu => h.2 (j + 1) y u (by simpa using hy) (by simpa using hu)⟩

theorem takeOpt_sound {o : Option Operand} {ρ : Operand → Value} {vs : List V} {rest : List Value} (h : RVs m S w vs ((o.map ρ).toList ++ rest).toArray) :
    OptRel m S w (takeOpt o vs).1 (o.map ρ) ∧ RVs m S w (takeOpt o vs).2 rest.toArray := by
  cases o with
  | none => cases vs <;> exact ⟨trivial, by simpa [takeOpt] using h⟩
  | some x =>
    cases vs with
    | nil => have := h.1; simp at this
    | cons v vs =>
      have h' : RVs m S w (v :: vs) (ρ x :: rest).toArray := by simpa using h
      exact ⟨h'.2 0 v _ rfl (by simp), RVs_tail h'⟩

theorem toList_two {α : Type} {a : Array α} {x y : α} (h : a.toList = [x, y]) : a = #[x, y] := by apply Array.ext'; simpa using h
theorem toList_one {α : Type} {a : Array α} {x : α} (h : a.toList = [x]) : a = #[x] := by apply Array.ext'; simpa using h

set_option maxHeartbeats 1000000 in
theorem act_sound (hT : TOK P T) (hg : GOK g rows) (inv : Inv w0 own m S w rows) {slot : Nat} (hs : SlotOK m rows slot) {env : List V} {ρ : Operand → Value} (hρ : OpRel m S w env ρ) {o : Oper} {vs : List V} {res : Res}
    (hv : evalOs env (opnds o.op) = some vs) (h : act T g slot o.op vs = some res) : Done P w0 own m S w rows slot (execOp ρ o) res := by
  have hvs := evalOs_sound hρ hv
  obtain ⟨dst, op, type, pos, after, guard⟩ := o
  simp only at hv h hvs
  unfold act at h
  split at h
  · cases h; obtain ⟨a, e, hr⟩ := get1 hvs
    simp [opnds] at e; subst e
    exact ⟨.value _, _, w, m, S, rfl, .inl rfl, inv, Ext.refl .., hr⟩
  · cases h; obtain ⟨a, e, hr⟩ := get1 hvs
    simp [opnds] at e; subst e
    exact ⟨.value _, _, w, m, S, rfl, .inl rfl, inv, Ext.refl .., hr⟩
  · cases h
    rename_i c a b bb x y
    have h0 := hvs.2 0 _ (ρ c) rfl (by simp [opnds])
    have h1 := hvs.2 1 _ (ρ a) rfl (by simp [opnds])
    have h2 := hvs.2 2 _ (ρ b) rfl (by simp [opnds])
    have e := bool_inv h0
    refine ⟨.value (if bb then ρ a else ρ b), _, w, m, S, by simp [execOp, e, asBool], .inl rfl, inv, Ext.refl .., ?_⟩
    cases bb <;> simpa
  · rename_i e
    split at h
    · rename_i y hy
      split at h
      · rename_i zs hz
        cases h
        obtain ⟨u, w', m', h1, h2, h3, h4⟩ := allocA_sound hT inv hs hy hz
        exact Done.left (res := { v := .pt slot 0 0 0, fresh := some (.box zs false) }) ⟨u, w', m', S, h1, h2, h3, h4⟩
      · cases h
    · cases h
  · cases h
    rename_i e x v
    obtain ⟨a, ea, hr⟩ := get1 hvs
    simp [opnds] at ea; subst ea
    obtain ⟨u, w', m', h1, h2, h3, h4⟩ := boxA_sound (P := P) (e := e) inv hs hr
    exact Done.left (res := { v := .pt slot 0 0 0, fresh := some (.box v.cells false) }) ⟨u, w', m', S, h1, h2, h3, h4⟩
  · rename_i t ps
    cases hb : buildA T t (ps.toList.map (·.1)) vs with
    | none => rw [hb] at h; cases h
    | some v =>
      rw [hb] at h; cases h
      have e1 : (ps.toList.map fun p => (p.1, ρ p.2)).map (·.1) = ps.toList.map (·.1) := by simp
      have e2 : (ps.toList.map fun p => (p.1, ρ p.2)).map (·.2) = (ps.toList.map (·.2)).map ρ := by simp
      obtain ⟨u, h1, h2⟩ := buildA_sound (P := P) (m := m) (S := S) (w := w) (parts := ps.toList.map fun p => (p.1, ρ p.2)) hT (by rw [e1]; exact hb) (by rw [e2]; exact hvs)
      have e3 : (ps.toList.map fun p => (p.1, ρ p.2)).toArray = ps.map fun p => (p.1, ρ p.2) := by apply Array.ext'; simp
      rw [e3] at h1
      exact Done.ofPure inv h1 h2
  · rename_i t len ps
    have e1 : (ps.toList.map fun p => (p.1, ρ p.2)).map (·.1) = ps.toList.map (·.1) := by simp
    have e2 : (ps.toList.map fun p => (p.1, ρ p.2)).map (·.2) = (ps.toList.map (·.2)).map ρ := by simp
    have key := buildSliceA_sound (P := P) (parts := ps.toList.map fun p => (p.1, ρ p.2)) hT hg inv hs (by rw [e1]; exact h) (by rw [e2]; exact hvs)
    have e3 : (ps.toList.map fun p => (p.1, ρ p.2)).toArray = ps.map fun p => (p.1, ρ p.2) := by apply Array.ext'; simp
    rw [e3] at key
    exact Done.left key
  · rename_i t
    cases h
    obtain ⟨u, w', m', h1, h2, h3, h4⟩ := makeMap_sound (P := P) inv hs t
    exact Done.left (res := { v := .mp slot, fresh := some (.map [] 0 false) }) ⟨u, w', m', S, h1, h2, h3, h4⟩
  · rename_i t xo ko ok x k
    obtain ⟨ar, br, ea, hr1, hr2⟩ := get2 hvs
    simp [opnds] at ea
    obtain ⟨ea, eb⟩ := ea
    subst ea; subst eb
    cases hb : lookupA T g t x k ok with
    | none => rw [hb] at h; cases h
    | some v =>
      rw [hb] at h; cases h
      obtain ⟨u, h1, h2⟩ := lookupA_sound (P := P) hT hg inv hb hr1 hr2
      exact Done.ofPure inv h1 h2
  · rename_i t xo ko vo x k v
    have h0 := hvs.2 0 _ (ρ xo) rfl (by simp [opnds])
    have h1 := hvs.2 1 _ (ρ ko) rfl (by simp [opnds])
    have h2 := hvs.2 2 _ (ρ vo) rfl (by simp [opnds])
    obtain ⟨w', e1, e2, e3, e4, e5⟩ := mapPutA_sound (P := P) hT hg inv h h0 h1 h2
    refine ⟨.skip, Go.undef, w', m, S, by simp [execOp, e1], .inr ⟨rfl, rfl⟩, ?_, e3, by rw [e4]; exact undef_rel⟩
    unfold applyRes; rw [e5]; exact e2
  · rename_i t xo ko vo x k v
    have h0 := hvs.2 0 _ (ρ xo) rfl (by simp [opnds])
    have h1 := hvs.2 1 _ (ρ ko) rfl (by simp [opnds])
    have h2 := hvs.2 2 _ (ρ vo) rfl (by simp [opnds])
    obtain ⟨w', e1, e2, e3, e4, e5⟩ := mapPutA_sound (P := P) hT hg inv h h0 h1 h2
    refine ⟨.skip, Go.undef, w', m, S, by simp [execOp, e1], .inr ⟨rfl, rfl⟩, ?_, e3, by rw [e4]; exact undef_rel⟩
    unfold applyRes; rw [e5]; exact e2
  · rename_i t x a
    obtain ⟨ar, ea, hr⟩ := get1 hvs
    simp [opnds] at ea; subst ea
    cases hb : loadA T g t a with
    | none => rw [hb] at h; cases h
    | some v =>
      rw [hb] at h; cases h
      obtain ⟨u, h1, h2⟩ := loadA_sound (P := P) hT hg inv hb hr
      exact Done.ofPure inv h1 h2
  · rename_i t x y a v
    obtain ⟨ar, br, ea, hr1, hr2⟩ := get2 hvs
    simp [opnds] at ea
    obtain ⟨ea, eb⟩ := ea
    subst ea; subst eb
    obtain ⟨w', S', h1, h2, h3, h4, h5⟩ := storeA_sound (P := P) hT hg inv h hr1 hr2
    refine ⟨.skip, Go.undef, w', m, S', by simp [execOp, h1], .inr ⟨rfl, rfl⟩, ?_, h3, by rw [h4]; exact undef_rel⟩
    unfold applyRes; rw [h5]; exact h2
  · rename_i x v
    obtain ⟨ar, ea, hr⟩ := get1 hvs
    simp [opnds] at ea; subst ea
    split at h
    · cases h
      have hr' := hr
      generalize hx : ρ x = xv at hr hr'
      cases hr
      exact ⟨.value _, _, w, m, S, by simp [execOp, hx], .inl rfl, inv, Ext.refl .., hr'⟩
    · cases h
      have hr' := hr
      generalize hx : ρ x = xv at hr hr'
      cases hr
      exact ⟨.value _, _, w, m, S, by simp [execOp, hx], .inl rfl, inv, Ext.refl .., hr'⟩
    · cases h
      have hr' := hr
      generalize hx : ρ x = xv at hr hr'
      cases hr
      exact ⟨.value _, _, w, m, S, by simp [execOp, hx], .inl rfl, inv, Ext.refl .., hr'⟩
    · cases h
  · rename_i bop t xo yo yt x y
    obtain ⟨ar, br, ea, hr1, hr2⟩ := get2 hvs
    simp [opnds] at ea
    obtain ⟨ea, eb⟩ := ea
    subst ea; subst eb
    cases hb : binA T bop t x y with
    | none => rw [hb] at h; cases h
    | some v =>
      rw [hb] at h; cases h
      obtain ⟨u, h1, h2⟩ := binA_sound (P := P) (xo := xo) (yo := yo) hT hb hr1 hr2
      exact Done.ofPure inv h1 h2
  · rename_i uop t xo x
    obtain ⟨ar, ea, hr⟩ := get1 hvs
    simp [opnds] at ea; subst ea
    cases hb : unA uop x with
    | none => rw [hb] at h; cases h
    | some v =>
      rw [hb] at h; cases h
      obtain ⟨u, h1, h2⟩ := unA_sound (P := P) hb hr
      exact Done.ofPure inv h1 h2
  · rename_i s d xo x
    obtain ⟨ar, ea, hr⟩ := get1 hvs
    simp [opnds] at ea; subst ea
    cases hb : convA T s d x with
    | none => rw [hb] at h; cases h
    | some v =>
      rw [hb] at h; cases h
      obtain ⟨u, h1, h2⟩ := convA_sound (P := P) hT hb hr
      exact Done.ofPure inv h1 h2
  · rename_i f first captured
    split at h
    · rename_i hf
      cases h
      have hfe : first = #[] := Array.eq_empty_of_size_eq_zero hf
      subst hfe
      have hcap : RVs m S w vs (captured.map ρ) := by
        have : (captured.toList.map ρ).toArray = captured.map ρ := by apply Array.ext'; simp
        rw [← this]; simpa [opnds] using hvs
      exact Done.ofPure inv (s := Instr.makeFunc (.func f) ((#[] : Array Operand).map ρ) (captured.map ρ)) (by simp [Instr.makeFunc]) (.fn f vs _ hcap.1 hcap.2)
    · split at h
      · rename_i hf
        cases h
        have hfe : captured = #[] := Array.eq_empty_of_size_eq_zero hf
        subst hfe
        have hcap : RVs m S w vs (first.map ρ) := by
          have : (first.toList.map ρ).toArray = first.map ρ := by apply Array.ext'; simp
          rw [← this]; simpa [opnds] using hvs
        exact Done.ofPure inv (s := Instr.makeFunc (.func f) (first.map ρ) ((#[] : Array Operand).map ρ)) (by simp [Instr.makeFunc]) (.bf f vs _ hcap.1 hcap.2)
      · cases h
  · rename_i t lo co l c
    obtain ⟨ar, br, ea, hr1, hr2⟩ := get2 hvs
    simp [opnds] at ea
    obtain ⟨ea, eb⟩ := ea
    subst ea; subst eb
    exact Done.left (makeSliceA_sound hT inv hs h hr1 hr2)
  · rename_i t xo l hh mx x vs
    have hx := hvs.2 0 x (ρ xo) rfl (by simp [opnds])
    have hrest : RVs m S w vs (((l.map ρ).toList ++ ((hh.map ρ).toList ++ ((mx.map ρ).toList ++ []))).toArray) := by
      have : RVs m S w (x :: vs) (ρ xo :: ((l.map ρ).toList ++ ((hh.map ρ).toList ++ ((mx.map ρ).toList ++ [])))).toArray := by
        have e : (opnds (.slice t xo l hh mx)).map ρ = ρ xo :: ((l.map ρ).toList ++ ((hh.map ρ).toList ++ ((mx.map ρ).toList ++ []))) := by
          cases l <;> cases hh <;> cases mx <;> rfl
        rw [← e]; exact hvs
      exact RVs_tail this
    obtain ⟨a1, r1⟩ := takeOpt_sound hrest
    obtain ⟨a2, r2⟩ := takeOpt_sound r1
    obtain ⟨a3, r3⟩ := takeOpt_sound r2
    simp only at h
    cases hb : sliceA T g t x (takeOpt l vs).1 (takeOpt hh (takeOpt l vs).2).1 (takeOpt mx (takeOpt hh (takeOpt l vs).2).2).1 with
    | none => rw [hb] at h; cases h
    | some v =>
      rw [hb] at h; cases h
      obtain ⟨u, h1, h2⟩ := sliceA_sound (P := P) hT hb hx a1 a2 a3
      exact Done.ofPure inv h1 h2
  · rename_i s xo f x
    obtain ⟨ar, ea, hr⟩ := get1 hvs
    simp [opnds] at ea; subst ea
    cases hb : fieldAddrA T s f x with
    | none => rw [hb] at h; cases h
    | some v =>
      rw [hb] at h; cases h
      obtain ⟨u, h1, h2⟩ := fieldAddrA_sound (P := P) hT hb hr
      exact Done.ofPure inv h1 h2
  · rename_i s xo f x
    obtain ⟨ar, ea, hr⟩ := get1 hvs
    simp [opnds] at ea; subst ea
    cases hb : fieldA T s f x with
    | none => rw [hb] at h; cases h
    | some v =>
      rw [hb] at h; cases h
      obtain ⟨u, h1, h2⟩ := fieldA_sound (P := P) hT hb hr
      exact Done.ofPure inv h1 h2
  · rename_i t xo io x i
    obtain ⟨ar, br, ea, hr1, hr2⟩ := get2 hvs
    simp [opnds] at ea
    obtain ⟨ea, eb⟩ := ea
    subst ea; subst eb
    cases hb : indexAddrA T t x i with
    | none => rw [hb] at h; cases h
    | some v =>
      rw [hb] at h; cases h
      obtain ⟨u, h1, h2⟩ := indexAddrA_sound (P := P) hT hb hr1 hr2
      exact Done.ofPure inv h1 h2
  · rename_i t xo io x i
    obtain ⟨ar, br, ea, hr1, hr2⟩ := get2 hvs
    simp [opnds] at ea
    obtain ⟨ea, eb⟩ := ea
    subst ea; subst eb
    cases hb : indexA T t x i with
    | none => rw [hb] at h; cases h
    | some v =>
      rw [hb] at h; cases h
      obtain ⟨u, h1, h2⟩ := indexA_sound (P := P) hT hb hr1 hr2
      exact Done.ofPure inv h1 h2
  · rename_i xo i vs
    obtain ⟨ar, ea, hr⟩ := get1 hvs
    simp [opnds] at ea; subst ea
    split at h
    · rename_i v hvi
      cases h
      generalize hx : ρ xo = xv at hr
      cases hr with
      | tup _ arr hlen hd =>
      obtain ⟨u, hu, hru⟩ := RVs.get (m := m) (S := S) (w := w) ⟨hlen, hd⟩ hvi
      exact Done.ofPure inv (s := Instr.extract (ρ xo) i) (by rw [hx]; simp [Instr.extract, hu]) hru
    · cases h
  · rename_i c
    obtain ⟨callee, args, ats⟩ := c
    have hargs : RVs m S w vs (args.map ρ) := by
      have : (args.toList.map ρ).toArray = args.map ρ := by apply Array.ext'; simp
      rw [← this]; exact hvs
    simp only at h
    split at h
    · split at h
      · rename_i t x hat
        have := toList_one hat; subst this
        cases hb : lenA T t x with
        | none => rw [hb] at h; cases h
        | some v =>
          rw [hb] at h; cases h
          obtain ⟨a, ea, hr⟩ := get1 hargs
          obtain ⟨u, h1, h2⟩ := lenA_sound (P := P) (ty := type) (ats := #[t]) (args := args.map ρ) hT hb hr rfl (by rw [ea]; rfl)
          exact Done.ofPure inv h1 h2
      · cases h
    · split at h
      · rename_i t x hat
        have := toList_one hat; subst this
        cases hb : capA T t x with
        | none => rw [hb] at h; cases h
        | some v =>
          rw [hb] at h; cases h
          obtain ⟨a, ea, hr⟩ := get1 hargs
          obtain ⟨u, h1, h2⟩ := capA_sound (P := P) (ty := type) (ats := #[t]) (args := args.map ρ) hT hb hr rfl (by rw [ea]; rfl)
          exact Done.ofPure inv h1 h2
      · cases h
    · cases hb : maxA vs with
      | none => rw [hb] at h; cases h
      | some v =>
        rw [hb] at h; cases h
        obtain ⟨u, h1, h2⟩ := maxA_sound (P := P) (ty := type) (ats := ats) hb hargs
        exact Done.ofPure inv h1 h2
    · cases hb : minA vs with
      | none => rw [hb] at h; cases h
      | some v =>
        rw [hb] at h; cases h
        obtain ⟨u, h1, h2⟩ := minA_sound (P := P) (ty := type) (ats := ats) hb hargs
        exact Done.ofPure inv h1 h2
    · split at h
      · rename_i t u s x hat
        have := toList_two hat; subst this
        obtain ⟨a, b, ea, hr1, hr2⟩ := get2 hargs
        have key := appendA_sound (P := P) (ty := type) hT hg inv hs h hr1 hr2
        rw [← ea] at key
        exact Done.left key
      · cases h
    · split at h
      · rename_i t u s x hat
        have := toList_two hat; subst this
        obtain ⟨a, b, ea, hr1, hr2⟩ := get2 hargs
        have key := copyA_sound (P := P) (u := u) (ty := type) (slot := slot) hT hg inv h hr1 hr2
        rw [← ea] at key
        exact Done.left key
      · cases h
    · split at h
      · rename_i t x hat
        have := toList_one hat; subst this
        obtain ⟨a, ea, hr1⟩ := get1 hargs
        have key := clearA_sound (P := P) (ty := type) (slot := slot) hT hg inv h hr1
        rw [← ea] at key
        exact Done.left key
      · cases h
    · cases h
  · cases h

end Go.Aev
end
/- AevRegion -/
section
/- A region: its operations one by one, and why any order that the edges allow ends alike. -/
namespace Go.Aev

mutual
def D.plain : D → Bool
  | .list _ => false
  | .agg cs => D.plains cs
  | _ => true
def D.plains : List D → Bool
  | [] => true
  | d :: r => d.plain && D.plains r
end

/-- no memory in it -/
def V.plain1 : V → Bool
  | .d x => x.plain
  | .nil => true
  | _ => false

def V.plain : V → Bool
  | .tup vs => vs.all V.plain1
  | v => v.plain1

structure Cfg where
  P : Program
  T : TypeId → Option Ty
  F : FuncId → Option Func
  rc : FuncId → Bool
  po : FuncId → Bool
  RC : FuncId → List V → Rows → Option V

def liveAt (rows : Rows) (r : Nat) : Option Row :=
  match rows[r]? with
  | some (.live row) => some row
  | _ => none

def lookOf (rows : Rows) (vs : List V) : Look := fun r => if (vs.flatMap V.refs).contains r then liveAt rows r else none

/-- all references of a value, those of closures too (to a depth) -/
def V.deepRefs : Nat → V → List Nat
  | 0, _ => []
  | n + 1, v => match v with
    | .sl r _ _ _ _ _ | .pt r _ _ _ | .mp r => [r]
    | .fn _ cs | .bf _ cs | .agg cs | .tup cs => cs.flatMap (V.deepRefs n)
    | _ => []

/-- the rows that a call can come to -/
def reachStep (rows : Rows) (rs : List Nat) : List Nat :=
  (rs ++ rs.flatMap fun r => match liveAt rows r with
    | some (.box cs _) => cs.flatMap (V.deepRefs 4)
    | _ => []).eraseDups

def reach (rows : Rows) (vs : List V) : List Nat := reachStep rows (reachStep rows (reachStep rows ((vs.flatMap (V.deepRefs 4)).eraseDups)))

def viewFrom (rs : List Nat) : Nat → Rows → Rows
  | _, [] => []
  | i, s :: r => (if rs.contains i then (match s with
    | .live row => if !row.freeze.rw then .live row.freeze else .dead
    | _ => .dead) else .dead) :: viewFrom rs (i + 1) r

theorem viewFrom_get (rs : List Nat) : ∀ (i : Nat) (rows : Rows) (j : Nat), (viewFrom rs i rows)[j]? = (rows[j]?).map fun s => if rs.contains (i + j) then (match s with
    | .live row => if !row.freeze.rw then .live row.freeze else .dead
    | _ => .dead) else .dead
  | i, [], j => by simp [viewFrom]
  | i, s :: r, 0 => by cases s <;> simp [viewFrom]
  | i, s :: r, j + 1 => by
    simp only [viewFrom, List.getElem?_cons_succ]
    rw [viewFrom_get rs (i + 1) r j]
    have : i + 1 + j = i + (j + 1) := by omega
    rw [this]

theorem viewFrom_len (rs : List Nat) : ∀ (i : Nat) (rows : Rows), (viewFrom rs i rows).length = rows.length
  | i, [] => rfl
  | i, s :: r => by simp [viewFrom, viewFrom_len rs (i + 1) r]

theorem liveAt_agree {rows rows' : Rows} {r : Nat} (h : rows'[r]? = rows[r]?) : liveAt rows' r = liveAt rows r := by simp only [liveAt, h]

theorem reachStep_sub {rows : Rows} {rs : List Nat} : ∀ r ∈ rs, r ∈ reachStep rows rs := by
  intro r hr
  simp [reachStep, List.mem_eraseDups, hr]

theorem flatMap_agree {f g : Nat → List Nat} : ∀ {rs : List Nat}, (∀ r ∈ rs, f r = g r) → rs.flatMap f = rs.flatMap g
  | [], _ => rfl
  | r :: rs, h => by
    simp only [List.flatMap_cons, h r (by simp), flatMap_agree fun x hx => h x (List.mem_cons_of_mem _ hx)]

theorem reachStep_agree {rows rows' : Rows} {rs : List Nat} (h : ∀ r ∈ rs, rows'[r]? = rows[r]?) : reachStep rows' rs = reachStep rows rs := by
  unfold reachStep
  have : (rs.flatMap fun r => match liveAt rows' r with
    | some (.box cs _) => cs.flatMap (V.deepRefs 4)
    | _ => []) = rs.flatMap fun r => match liveAt rows r with
    | some (.box cs _) => cs.flatMap (V.deepRefs 4)
    | _ => [] := flatMap_agree fun r hr => by rw [liveAt_agree (h r hr)]
  rw [this]

theorem reach_agree {rows rows' : Rows} {vs : List V} (h : ∀ r ∈ reach rows vs, rows'[r]? = rows[r]?) : reach rows' vs = reach rows vs := by
  unfold reach at h ⊢
  have h1 := reachStep_agree (rows := rows) (rows' := rows') (rs := (vs.flatMap (V.deepRefs 4)).eraseDups) (fun r hr => h r (reachStep_sub _ (reachStep_sub _ (reachStep_sub _ hr))))
  rw [h1]
  have h2 := reachStep_agree (rows := rows) (rows' := rows') (rs := reachStep rows ((vs.flatMap (V.deepRefs 4)).eraseDups)) (fun r hr => h r (reachStep_sub _ (reachStep_sub _ hr)))
  rw [h2]
  exact reachStep_agree (fun r hr => h r (reachStep_sub _ hr))

theorem viewFrom_agree {rows rows' : Rows} {rs : List Nat} (hl : rows'.length = rows.length) (h : ∀ r ∈ rs, rows'[r]? = rows[r]?) : viewFrom rs 0 rows' = viewFrom rs 0 rows := by
  apply List.ext_getElem?
  intro j
  rw [viewFrom_get, viewFrom_get]
  by_cases hj : rs.contains (0 + j) = true
  · rw [h j (by simpa using hj)]
  · simp only [if_neg hj]
    rcases Nat.lt_or_ge j rows.length with h1 | h1
    · rw [List.getElem?_eq_getElem h1, List.getElem?_eq_getElem (hl ▸ h1)]; rfl
    · rw [List.getElem?_eq_none h1, List.getElem?_eq_none (hl ▸ h1)]

def frozenUps (rows : Rows) : List Nat → List (Nat × Slot)
  | [] => []
  | r :: rs => match liveAt rows r with
    | some row => if row.rw && !row.freeze.rw then (r, .live row.freeze) :: frozenUps rows rs else frozenUps rows rs
    | none => frozenUps rows rs

theorem frozenUps_agree {rows rows' : Rows} : ∀ {rs : List Nat}, (∀ r ∈ rs, rows'[r]? = rows[r]?) → frozenUps rows' rs = frozenUps rows rs
  | [], _ => rfl
  | r :: rs, h => by
    simp only [frozenUps, liveAt_agree (h r (by simp)), frozenUps_agree fun x hx => h x (List.mem_cons_of_mem _ hx)]

def idxIn (r : Nat) : List Nat → Nat → Option Nat
  | [], _ => none
  | x :: l, i => if x = r then some i else idxIn r l (i + 1)

def mapO {α γ : Type} (f : α → Option γ) : List α → Option (List γ)
  | [] => some []
  | x :: l => match f x, mapO f l with
    | some y, some r => some (y :: r)
    | _, _ => none

def renV (f : Nat → Option Nat) : Nat → V → Option V
  | n, v => match v with
    | .d x => some (.d x)
    | .nil => some .nil
    | .dp x => some (.dp x)
    | .top => some .top
    | .any => none
    | .sl r k off len c ex => (f r).map fun r => .sl r k off len c ex
    | .pt r k i g => (f r).map fun r => .pt r k i g
    | .mp r => (f r).map .mp
    | .yl _ => none
    | .fn g cs => match n with
      | 0 => if cs.isEmpty then some (.fn g []) else none
      | n + 1 => (mapO (renV f n) cs).map (.fn g)
    | .bf g cs => match n with
      | 0 => none
      | n + 1 => (mapO (renV f n) cs).map (.bf g)
    | .agg cs => match n with
      | 0 => none
      | n + 1 => (mapO (renV f n) cs).map .agg
    | .tup cs => match n with
      | 0 => if cs.isEmpty then some (.tup []) else none
      | n + 1 => (mapO (renV f n) cs).map .tup

def renRow (f : Nat → Option Nat) : Option Row → Option Slot
  | some (.dat k es _) => some (.live (.dat k es true))
  | some (.box cs _) => (mapO (renV f 4) cs).map fun cs => .live (.box cs true)
  | some (.map es c _) => (mapO (fun e => (renV f 4 e.2).map fun v => (e.1, v)) es).map fun es => .live (.map es c true)
  | _ => some .dead

/-- arguments and the rows behind them, by new numbers -/
def compact (g : Nat → Option Row) (rs : List Nat) (args : List V) : Option (List V × Rows) :=
  let f := fun r => idxIn r rs 0
  match mapO (renV f 4) args, mapO (fun r => renRow f (g r)) rs with
  | some args, some rows => some (args, rows)
  | _, _ => none

theorem mapO_congr {α γ : Type} {f g : α → Option γ} : ∀ {l : List α}, (∀ x ∈ l, f x = g x) → mapO f l = mapO g l
  | [], _ => rfl
  | x :: l, h => by simp only [mapO, h x (by simp), mapO_congr fun y hy => h y (List.mem_cons_of_mem _ hy)]

theorem compact_congr {g g' : Nat → Option Row} {rs : List Nat} {args : List V} (h : ∀ r ∈ rs, g' r = g r) : compact g' rs args = compact g rs args := by
  unfold compact
  simp only
  rw [mapO_congr (f := fun r => renRow (fun r => idxIn r rs 0) (g' r)) (g := fun r => renRow (fun r => idxIn r rs 0) (g r)) fun r hr => by rw [h r hr]]

/-- a call that reads: its rows are the reached ones, frozen and by new numbers -/
def callRC (c : Cfg) (g : FuncId) (args : List V) (rows : Rows) : Option Res :=
  let rs := reach rows args
  match compact (liveAt rows) rs args with
  | some (args', rows') => match c.RC g args' rows' with
    | some v => if v.plain then some { v } else some { v, ups := frozenUps rows rs }
    | none => none
  | none => none

theorem callRC_agree {c : Cfg} {g : FuncId} {args : List V} {rows rows' : Rows} (h : ∀ r ∈ reach rows args, rows'[r]? = rows[r]?) : callRC c g args rows' = callRC c g args rows := by
  unfold callRC
  simp only [reach_agree h, compact_congr fun r hr => liveAt_agree (h r hr), frozenUps_agree h]

/-- a call of a function value -/
def callView : Op → Option (Operand × List Operand)
  | .call { callee := .value f, args, .. } => some (f, args.toList)
  | _ => none

/-- the function and the arguments of a call of a function value -/
def fnArgs : V → List V → Option (FuncId × List V)
  | .fn g caps, vs => some (g, vs ++ caps)
  | .bf g fs, vs => some (g, fs ++ vs)
  | _, _ => none

def opRes (c : Cfg) (env : List V) (rows : Rows) (slot : Nat) (o : Op) : Option Res :=
  match callView o with
  | some (f, args) => match evalO env f, evalOs env args with
    | some fv, some vs => match fnArgs fv vs with
      | some (g, as) => if c.rc g then callRC c g as rows else none
      | none => none
    | _, _ => none
  | none => match evalOs env (opnds o) with
    | some vs => act c.T (lookOf rows vs) slot o vs
    | none => none

def wantedA (ops : Array Oper) (env : List V) (o : Oper) : Option Bool :=
  match o.guard with
  | none => some true
  | some (j, want) => match ((ops[j]?).bind (·.dst)) with
    | some d => match env[d]? with
      | some (.d (.bool b)) => some (b == want)
      | some (.tup _) => some false
      | _ => none
    | none => none

structure St where
  env : List V
  rows : Rows

structure Rec where
  dst : Option Nat
  v : V
  ups : List (Nat × Slot) := []
  fresh : Option Row := none
  slot : Nat
  rdT : List Nat
  rdR : Option (List Nat)

def tmpsOf (xs : List Operand) : List Nat := xs.filterMap fun | .tmp t => some t | _ => none

def readsT (ops : Array Oper) (o : Oper) : List Nat :=
  (match o.guard with
    | some (j, _) => ((ops[j]?).bind (·.dst)).toList
    | none => []) ++
  (match callView o.op with
    | some (f, args) => tmpsOf [f] ++ tmpsOf args
    | none => tmpsOf (opnds o.op))

/-- operations that look at no row -/
def noLook : Op → Bool
  | .move _ | .assign _ | .pick _ _ _ | .alloc _ | .box _ _ | .build _ _ | .nilCheck _ | .binOp _ _ _ _ _ | .unOp _ _ _ | .convert _ _ _ | .makeFunc _ _ _
  | .makeSlice _ _ _ | .fieldAddr _ _ _ | .field _ _ _ | .indexAddr _ _ _ | .index _ _ _ | .extract _ _ => true
  | .call { callee := .builtin .len, .. } => true
  | .call { callee := .builtin .cap, .. } => true
  | .call { callee := .builtin .max, .. } => true
  | .call { callee := .builtin .min, .. } => true
  | _ => false

theorem act_nolook {T : TypeId → Option Ty} {o : Op} (h : noLook o = true) (g g' : Look) (slot : Nat) (vs : List V) : act T g slot o vs = act T g' slot o vs := by
  unfold noLook at h
  split at h <;> first
    | rfl
    | (rename_i fn _ _; cases fn <;> rfl)
    | (rcases vs with _ | ⟨a, _ | ⟨b, _ | ⟨c, _ | ⟨d, vs⟩⟩⟩⟩ <;> first
        | rfl
        | (rcases a with d | _ | _ | _ | _ | _ | _ | _ | _ | _ | _ | _ <;> first
            | rfl
            | (cases d <;> rfl)))
    | (cases h; done)

/-- the rows that an operation looks at -/
def opReads (rows : Rows) (o : Op) (vs : List V) : List Nat :=
  if noLook o then [] else match o, vs with
    | .store _ _ _, .pt r k i f :: xs => match liveAt rows r with
      | some (.box _ _) => [r]
      | _ => (V.pt r k i f :: xs).flatMap V.refs
    | _, vs => vs.flatMap V.refs

def readsR (env : List V) (rows : Rows) (o : Op) : Option (List Nat) :=
  match callView o with
  | some (f, args) => match evalO env f, evalOs env args with
    | some fv, some vs => match fnArgs fv vs with
      | some (_, as) => some (reach rows as)
      | none => some []
    | _, _ => some []
  | none => match evalOs env (opnds o) with
    | some vs => some (opReads rows o vs)
    | none => some []

def Rec.wr (a : Rec) : List Nat := a.ups.map (·.1) ++ (if a.fresh.isSome then [a.slot] else [])

/-- one operation of a region; slot0 + i is its own place for a new row -/
def stepR (c : Cfg) (ops : Array Oper) (slot0 : Nat) (i : Nat) (s : St) : Option Rec :=
  match ops[i]? with
  | none => none
  | some o => match wantedA ops s.env o with
    | none => none
    | some false => some { dst := o.dst, v := V.undef, slot := slot0 + i, rdT := readsT ops o, rdR := some [] }
    | some true => match opRes c s.env s.rows (slot0 + i) o.op with
      | none => none
      | some res =>
        let a : Rec := { dst := o.dst, v := res.v, ups := res.ups, fresh := res.fresh, slot := slot0 + i, rdT := readsT ops o, rdR := readsR s.env s.rows o.op }
        if a.wr.all (fun r => decide (r < s.rows.length)) then some a else none

def setRows (us : List (Nat × Slot)) (rows : Rows) : Rows := us.foldl (fun rs u => rs.set u.1 u.2) rows

def Rec.all (a : Rec) : List (Nat × Slot) := a.ups ++ (match a.fresh with | some row => [(a.slot, .live row)] | none => [])

def Rec.exec (a : Rec) (s : St) : St :=
  { env := match a.dst with | some d => s.env.set d a.v | none => s.env, rows := setRows a.all s.rows }

def disjoint (a b : List Nat) : Bool := a.all fun x => !b.contains x

def apartR (rd : Option (List Nat)) (wr : List Nat) : Bool :=
  match rd with
  | some l => disjoint l wr
  | none => wr.isEmpty

def indep (a b : Rec) : Bool :=
  disjoint a.dst.toList b.rdT && disjoint b.dst.toList a.rdT && disjoint a.dst.toList b.dst.toList &&
  apartR b.rdR a.wr && apartR a.rdR b.wr && disjoint a.wr b.wr

theorem disjoint_spec {a b : List Nat} (h : disjoint a b = true) : ∀ x, x ∈ a → x ∉ b := by
  intro x hx hb
  have := (List.all_eq_true.1 h) x hx
  simp [hb] at this

theorem Rec.all_wr (a : Rec) : a.all.map (·.1) = a.wr := by
  unfold Rec.all Rec.wr
  cases a.fresh <;> simp

theorem setRows_len (us : List (Nat × Slot)) (rows : Rows) : (setRows us rows).length = rows.length := by
  induction us generalizing rows with
  | nil => rfl
  | cons u us ih => simp only [setRows, List.foldl_cons]; rw [← setRows, ih]; simp

theorem setRows_get {us : List (Nat × Slot)} {rows : Rows} {r : Nat} (h : r ∉ us.map (·.1)) : (setRows us rows)[r]? = rows[r]? := by
  induction us generalizing rows with
  | nil => rfl
  | cons u us ih =>
    simp only [List.map_cons, List.mem_cons, not_or] at h
    simp only [setRows, List.foldl_cons]
    rw [← setRows, ih h.2, List.getElem?_set_ne (fun e => h.1 e.symm)]

theorem setRows_set {us : List (Nat × Slot)} {rows : Rows} {r : Nat} {x : Slot} (h : r ∉ us.map (·.1)) : setRows us (rows.set r x) = (setRows us rows).set r x := by
  induction us generalizing rows with
  | nil => rfl
  | cons u us ih =>
    simp only [List.map_cons, List.mem_cons, not_or] at h
    simp only [setRows, List.foldl_cons]
    rw [List.set_comm _ _ (fun e => h.1 e), ← setRows, ih h.2]; rfl

theorem setRows_comm {us vs : List (Nat × Slot)} {rows : Rows} (h : ∀ x, x ∈ us.map (·.1) → x ∉ vs.map (·.1)) : setRows us (setRows vs rows) = setRows vs (setRows us rows) := by
  induction us generalizing rows with
  | nil => rfl
  | cons u us ih =>
    have h1 : u.1 ∉ vs.map (·.1) := h u.1 (by simp)
    show setRows us ((setRows vs rows).set u.1 u.2) = setRows vs (setRows us (rows.set u.1 u.2))
    rw [← setRows_set h1, ih (fun x hx => h x (by simp only [List.map_cons, List.mem_cons]; exact .inr hx))]

/-- two states alike where a record looks -/
structure Agree (a : Rec) (s t : St) : Prop where
  tmp : ∀ x ∈ a.rdT, t.env[x]? = s.env[x]?
  row : match a.rdR with
    | some l => ∀ r ∈ l, t.rows[r]? = s.rows[r]?
    | none => t.rows = s.rows
  len : t.rows.length = s.rows.length

theorem evalO_agree {s t : St} {x : Operand} (h : ∀ y ∈ tmpsOf [x], t.env[y]? = s.env[y]?) : evalO t.env x = evalO s.env x := by
  cases x with
  | tmp y => simp only [evalO, List.getD, h y (by simp [tmpsOf])]
  | _ => rfl

theorem evalOs_agree {s t : St} {xs : List Operand} (h : ∀ y ∈ tmpsOf xs, t.env[y]? = s.env[y]?) : evalOs t.env xs = evalOs s.env xs := by
  induction xs with
  | nil => rfl
  | cons x xs ih =>
    simp only [evalOs]
    rw [evalO_agree (s := s) (t := t) (fun y hy => h y (by cases x <;> simp_all [tmpsOf])), ih (fun y hy => h y (by cases x <;> simp_all [tmpsOf]))]

theorem lookOf_agree {rows rows' : Rows} {vs : List V} (h : ∀ r ∈ vs.flatMap V.refs, rows'[r]? = rows[r]?) : lookOf rows' vs = lookOf rows vs := by
  funext r
  unfold lookOf
  split
  · rename_i hr
    have := h r (by simpa using hr)
    simp only [liveAt, this]
  · rfl

theorem storeA_box {T : TypeId → Option Ty} {g g' : Look} {t : TypeId} {r k i f : Nat} {x : V} {cs : List V} {ro : Bool} (h : g r = some (.box cs ro)) (h' : g' r = some (.box cs ro)) :
    storeA T g t (.pt r k i f) x = storeA T g' t (.pt r k i f) x := by
  unfold storeA
  cases T t with
  | none => rfl
  | some y =>
    simp only [h, h']
    cases ro <;> rfl

theorem opReads_agree {T : TypeId → Option Ty} {slot : Nat} {rows rows' : Rows} {o : Op} {vs : List V} (h : ∀ r ∈ opReads rows o vs, rows'[r]? = rows[r]?) :
    act T (lookOf rows' vs) slot o vs = act T (lookOf rows vs) slot o vs ∧ opReads rows' o vs = opReads rows o vs := by
  by_cases hnl : noLook o = true
  · exact ⟨act_nolook hnl _ _ _ _, by unfold opReads; rw [if_pos hnl, if_pos hnl]⟩
  · unfold opReads at h ⊢
    rw [if_neg hnl] at h
    rw [if_neg hnl, if_neg hnl]
    split at h
    · rename_i t a b r k i f xs
      split at h
      · rename_i cs ro hl
        have hr := h r (by simp)
        have e1 : lookOf rows (V.pt r k i f :: xs) r = some (.box cs ro) := by
          simp [lookOf, V.refs, V.refs1, hl]
        have e2 : lookOf rows' (V.pt r k i f :: xs) r = some (.box cs ro) := by
          simp [lookOf, V.refs, V.refs1, liveAt_agree hr, hl]
        refine ⟨?_, by simp only [liveAt_agree hr, hl]⟩
        rcases xs with _ | ⟨x, _ | ⟨y, xs⟩⟩
        · rfl
        · simp only [act]
          exact storeA_box e2 e1
        · rfl
      · rename_i hl
        have hr := h r (by simp [V.refs, V.refs1])
        refine ⟨by rw [lookOf_agree h], ?_⟩
        simp only [liveAt_agree hr]
    · exact ⟨by rw [lookOf_agree h], rfl⟩

theorem stepR_local {c : Cfg} {ops : Array Oper} {slot0 i : Nat} {s t : St} {a : Rec} (h : stepR c ops slot0 i s = some a) (ag : Agree a s t) : stepR c ops slot0 i t = some a := by
  unfold stepR at h ⊢
  split at h
  · cases h
  · rename_i o ho
    have hwant : ∀ {a' : Rec}, a'.rdT = readsT ops o → (∀ x ∈ a'.rdT, t.env[x]? = s.env[x]?) → wantedA ops t.env o = wantedA ops s.env o := by
      intro a' h1 h2
      unfold wantedA
      split
      · rfl
      · rename_i j want hg
        split
        · rename_i d hd
          have : t.env[d]? = s.env[d]? := h2 d (by rw [h1]; unfold readsT; rw [hg]; simp [hd])
          rw [this]
        · rfl
    split at h
    · cases h
    · rename_i hw
      cases h
      rw [hwant (a' := { dst := o.dst, v := V.undef, slot := slot0 + i, rdT := readsT ops o, rdR := some [] }) rfl ag.tmp, hw]
    · rename_i hw
      split at h
      · cases h
      · rename_i res hres
        simp only at h
        split at h
        · rename_i hlt
          cases h
          have hT := ag.tmp
          have hR := ag.row
          simp only at hT hR
          have hop : opRes c t.env t.rows (slot0 + i) o.op = opRes c s.env s.rows (slot0 + i) o.op ∧ readsR t.env t.rows o.op = readsR s.env s.rows o.op := by
            unfold opRes readsR
            unfold readsT at hT
            unfold readsR at hR
            cases hcv : callView o.op with
            | some fa =>
              obtain ⟨f, args⟩ := fa
              rw [hcv] at hT hR
              simp only at hT hR
              have e1 := evalO_agree (s := s) (t := t) (x := f) (fun y hy => hT y (List.mem_append.2 (.inr (List.mem_append.2 (.inl hy)))))
              have e2 := evalOs_agree (s := s) (t := t) (xs := args) (fun y hy => hT y (List.mem_append.2 (.inr (List.mem_append.2 (.inr hy)))))
              simp only [e1, e2]
              cases hf : evalO s.env f with
              | none => simp
              | some fv =>
                cases hvs : evalOs s.env args with
                | none => simp
                | some vs =>
                  rw [hf, hvs] at hR
                  simp only at hR
                  cases hfa : fnArgs fv vs with
                  | none => simp [hfa]
                  | some ga =>
                    rw [hfa] at hR
                    simp only at hR
                    simp only [hfa, callRC_agree hR, reach_agree hR, and_self]
            | none =>
              rw [hcv] at hT hR
              simp only at hT hR
              have e2 := evalOs_agree (s := s) (t := t) (xs := opnds o.op) (fun y hy => hT y (List.mem_append.2 (.inr hy)))
              simp only [e2]
              cases hvs : evalOs s.env (opnds o.op) with
              | none => simp
              | some vs =>
                rw [hvs] at hR
                simp only at hR
                simp only [(opReads_agree (T := c.T) (slot := slot0 + i) hR).1, (opReads_agree (T := c.T) (slot := slot0 + i) hR).2, and_self]
          rw [hwant (a' := { dst := o.dst, v := res.v, ups := res.ups, fresh := res.fresh, slot := slot0 + i, rdT := readsT ops o, rdR := readsR s.env s.rows o.op }) rfl ag.tmp, hw]
          simp only [hop.1, hres, hop.2]
          have hlen := ag.len
          rw [hlen, if_pos hlt]
        · cases h


theorem exec_env_get {a : Rec} {s : St} {x : Nat} (h : x ∉ a.dst.toList) : (a.exec s).env[x]? = s.env[x]? := by
  unfold Rec.exec
  cases hd : a.dst with
  | none => rfl
  | some d =>
    rw [hd] at h
    simp only [Option.toList_some, List.mem_singleton] at h
    simp only [List.getElem?_set_ne (fun e => h e.symm)]

theorem exec_row_get {a : Rec} {s : St} {r : Nat} (h : r ∉ a.wr) : (a.exec s).rows[r]? = s.rows[r]? := by
  unfold Rec.exec
  exact setRows_get (by rw [a.all_wr]; exact h)

theorem exec_len {a : Rec} {s : St} : (a.exec s).rows.length = s.rows.length := setRows_len ..

theorem agree_exec {a b : Rec} {s : St} (h1 : disjoint a.dst.toList b.rdT = true) (h2 : apartR b.rdR a.wr = true) : Agree b s (a.exec s) := by
  refine ⟨fun x hx => exec_env_get (fun hd => disjoint_spec h1 x hd hx), ?_, exec_len⟩
  unfold apartR at h2
  split at h2
  · rename_i l hl
    exact fun r hr => exec_row_get (disjoint_spec h2 r hr)
  · rename_i hl
    have hw : a.wr = [] := by simpa using h2
    have : a.all = [] := by
      have := a.all_wr
      rw [hw] at this
      simpa using this
    show (a.exec s).rows = s.rows
    unfold Rec.exec
    rw [this]; rfl

theorem agree_symm {a b : Rec} {s : St} (h1 : disjoint a.dst.toList b.rdT = true) (h2 : apartR b.rdR a.wr = true) : Agree b (a.exec s) s := by
  have := agree_exec (s := s) h1 h2
  refine ⟨fun x hx => (this.tmp x hx).symm, ?_, this.len.symm⟩
  have hr := this.row
  split
  · rename_i l hl
    rw [hl] at hr
    exact fun r h => (hr r h).symm
  · rename_i hl
    rw [hl] at hr
    exact hr.symm

theorem exec_comm {a b : Rec} (s : St) (h1 : disjoint a.dst.toList b.dst.toList = true) (h2 : disjoint a.wr b.wr = true) : a.exec (b.exec s) = b.exec (a.exec s) := by
  unfold Rec.exec
  have hr : setRows a.all (setRows b.all s.rows) = setRows b.all (setRows a.all s.rows) := setRows_comm (by rw [a.all_wr, b.all_wr]; exact disjoint_spec h2)
  have he : (match a.dst with | some d => List.set (match b.dst with | some d => s.env.set d b.v | none => s.env) d a.v | none => (match b.dst with | some d => s.env.set d b.v | none => s.env)) =
      (match b.dst with | some d => List.set (match a.dst with | some d => s.env.set d a.v | none => s.env) d b.v | none => (match a.dst with | some d => s.env.set d a.v | none => s.env)) := by
    cases ha : a.dst with
    | none => cases b.dst <;> rfl
    | some d =>
      cases hb : b.dst with
      | none => rfl
      | some e =>
        rw [ha, hb] at h1
        have hne : d ≠ e := by
          intro h3; subst h3
          exact disjoint_spec h1 d (by simp) (by simp)
        simp only
        rw [List.set_comm _ _ (fun h => hne h.symm)]
  simp only [St.mk.injEq]
  exact ⟨he, hr⟩

/-- the operations of a list, one after the other, each with its own record -/
def Runs (c : Cfg) (ops : Array Oper) (slot0 : Nat) (R : Nat → Rec) : List Nat → St → St → Prop
  | [], s, s' => s' = s
  | i :: l, s, s' => stepR c ops slot0 i s = some (R i) ∧ Runs c ops slot0 R l ((R i).exec s) s'

theorem Runs.move {c : Cfg} {ops : Array Oper} {slot0 : Nat} {R : Nat → Rec} {k : Nat} {B : List Nat} : ∀ {A : List Nat} {s s' : St}, Runs c ops slot0 R (A ++ k :: B) s s' → (∀ a ∈ A, indep (R a) (R k) = true) → Runs c ops slot0 R (k :: (A ++ B)) s s'
  | [], s, s', h, _ => h
  | a :: A, s, s', h, hi => by
    obtain ⟨h1, h2⟩ := h
    obtain ⟨h3, h4⟩ := Runs.move h2 (fun x hx => hi x (List.mem_cons_of_mem _ hx))
    have hind := hi a (by simp)
    simp only [indep, Bool.and_eq_true] at hind
    obtain ⟨⟨⟨⟨⟨i1, i2⟩, i3⟩, i4⟩, i5⟩, i6⟩ := hind
    refine ⟨stepR_local h3 (agree_symm i1 i4), stepR_local h1 (agree_exec i2 i5), ?_⟩
    rw [exec_comm s i3 i6]
    exact h4

def directs (ops : Array Oper) (k : Nat) : List Nat :=
  match ops[k]? with
  | some o => (o.after.toList.filter fun e => Region.binds .any e).map (·.on)
  | none => []

/-- a schedule of the operations that are left -/
inductive Sched (ops : Array Oper) : List Nat → List Nat → Prop
  | nil : Sched ops [] []
  | cons (k : Nat) (A B σ : List Nat) (hr : ∀ j ∈ directs ops k, j ∉ A ++ k :: B) (h : Sched ops (A ++ B) σ) : Sched ops (A ++ k :: B) (k :: σ)

/-- before another by the edges -/
inductive Anc (ops : Array Oper) : Nat → Nat → Prop
  | one {i k : Nat} (h : i ∈ directs ops k) : Anc ops i k
  | more {i j k : Nat} (h : j ∈ directs ops k) (h' : Anc ops i j) : Anc ops i k

theorem Sched.runs {c : Cfg} {ops : Array Oper} {slot0 n : Nat} {R : Nat → Rec} {L σ : List Nat} (h : Sched ops L σ) :
    ∀ {s s' : St}, Runs c ops slot0 R L s s' → (∀ x ∈ L, x < n) → L.Pairwise (· < ·) →
      (∀ x, x < n → x ∉ L → ∀ j ∈ directs ops x, j ∉ L) → (∀ k, k < n → ∀ j ∈ directs ops k, j < n) →
      (∀ i k, i < k → k < n → Anc ops i k ∨ indep (R i) (R k) = true) → Runs c ops slot0 R σ s s' := by
  induction h with
  | nil => intro s s' h _ _ _ _ _; exact h
  | cons k A B σ hr _ ih =>
    intro s s' hrun hlt hsort hdc hdn hpair
    have hnot : ∀ (i : Nat), i ∈ A ++ k :: B → ∀ k', k' < n → (k' ∉ A ++ k :: B ∨ k' = k) → ¬ Anc ops i k' := by
      intro i hi k' hk' hor hanc
      induction hanc with
      | one h =>
        rename_i k0
        rcases hor with h1 | h1
        · exact hdc k0 hk' h1 i h hi
        · subst h1; exact hr i h hi
      | more h _ ih2 =>
        rename_i j0 k0 _
        have hj : j0 ∉ A ++ k :: B := by
          rcases hor with h1 | h1
          · exact hdc k0 hk' h1 j0 h
          · subst h1; exact hr j0 h
        exact ih2 (hdn k0 hk' j0 h) (.inl hj)
    have hkn : k < n := hlt k (by simp)
    have hind : ∀ a ∈ A, indep (R a) (R k) = true := by
      intro a ha
      have hak : a < k := (List.pairwise_append.1 hsort).2.2 a ha k (by simp)
      rcases hpair a k hak hkn with h1 | h1
      · exact absurd h1 (hnot a (by simp [ha]) k hkn (.inr rfl))
      · exact h1
    obtain ⟨h1, h2⟩ := hrun.move hind
    refine ⟨h1, ih h2 (fun x hx => hlt x (by rcases List.mem_append.1 hx with h | h <;> simp [h])) ?_ ?_ hdn hpair⟩
    · rw [List.pairwise_append] at hsort ⊢
      exact ⟨hsort.1, (List.pairwise_cons.1 hsort.2.1).2, fun a ha b hb => hsort.2.2 a ha b (by simp [hb])⟩
    · intro x hx hnx j hj hmem
      have hmem' : j ∈ A ++ k :: B := by rcases List.mem_append.1 hmem with h | h <;> simp [h]
      by_cases hxk : x = k
      · subst hxk; exact hr j hj hmem'
      · refine hdc x hx (fun h => ?_) j hj hmem'
        rcases List.mem_append.1 h with h | h
        · exact hnx (by simp [h])
        · rcases List.mem_cons.1 h with h | h
          · exact hxk h
          · exact hnx (by simp [h])

end Go.Aev
end
