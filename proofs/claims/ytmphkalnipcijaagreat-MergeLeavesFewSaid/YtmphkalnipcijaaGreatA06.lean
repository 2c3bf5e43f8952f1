/- Lemmas for the statements of this seat: an abstract machine that the model follows, and contracts of functions. Conditions: none. -/
import Derived.Test.YtmphkalnipcijaaGreatA05
import Derived.KernelRfl
set_option linter.unusedVariables false
set_option linter.unusedSimpArgs false
/- AevRun -/
section
/- Read calls by the abstract machine itself; a closed call. -/
namespace Go.Aev
open Go.RowKit (Below)

variable {w0 : World} {own : Own} {m : Mp} {S : Nat → Prop} {w : World} {rows : Rows}

/-- a result as data -/
def conv0 (g : Look) : V → Option V
  | .d x => some (.d x)
  | .nil => some .nil
  | .fn f [] => some (.fn f [])
  | .sl r k off len c ex => match toD1 g (.sl r k off len c ex) with
    | some (x, _) => some (.d x)
    | none => none
  | _ => none

def convsBy (f : V → Option V) : List V → Option (List V)
  | [] => some []
  | v :: r => match f v, convsBy f r with
    | some x, some l => some (x :: l)
    | _, _ => none

def conv1 (g : Look) : V → Option V
  | .agg cs => match toDs g cs with
    | some (ds, _) => some (.d (.agg ds))
    | none => (convsBy (conv0 g) cs).map V.agg
  | v => conv0 g v

def convV (g : Look) : V → Option V
  | .tup vs => (convsBy (conv1 g) vs).map V.tup
  | v => conv1 g v

structure Base where
  P : Program
  T : TypeId → Option Ty
  F : FuncId → Option Func
  rc : FuncId → Bool
  po : FuncId → Bool
  fuel : Nat

def Base.cfg (b : Base) : Nat → Cfg
  | 0 => { P := b.P, T := b.T, F := b.F, rc := b.rc, po := b.po, RC := fun _ _ _ => none }
  | n + 1 =>
    let c := b.cfg n
    { P := b.P, T := b.T, F := b.F, rc := b.rc, po := b.po, RC := fun g args rows => match enterA c g args with
      | some fr => match aRun c b.fuel { fr, stack := [], rows } with
        | .done v rows' => convV (liveAt rows') v
        | _ => none
      | none => none }

structure BOK (b : Base) : Prop where
  T : TOK b.P b.T
  F : ∀ g gf, b.F g = some gf → b.P.funcs[g]? = some gf ∧ (gf.name == "runtime.NumGoroutine") = false
  rc : ∀ g, b.rc g = true → ∃ gf, b.P.funcs[g]? = some gf ∧ gf.body.isSome = true ∧ (gf.name == "runtime.NumGoroutine") = false
  mixed : b.P.follows .mixedOrders = true

theorem cfg_P (b : Base) (n : Nat) : (b.cfg n).P = b.P := by cases n <;> rfl
theorem cfg_T (b : Base) (n : Nat) : (b.cfg n).T = b.T := by cases n <;> rfl
theorem cfg_F (b : Base) (n : Nat) : (b.cfg n).F = b.F := by cases n <;> rfl
theorem cfg_rc (b : Base) (n : Nat) : (b.cfg n).rc = b.rc := by cases n <;> rfl

/-- a conversion that keeps the meaning, in every placing of the rows -/
def ConvOK (f : Look → V → Option V) : Prop := ∀ {w0 : World} {own : Own} {m : Mp} {S : Nat → Prop} {w : World} {rows : Rows}, Inv w0 own m S w rows → ∀ {g : Look} {v x : V} {u : Value}, GD g rows → f g v = some x → RV m S w v u →
    ∃ S' rows', Inv w0 own m S' w rows' ∧ Ext m S w m S' w ∧ (∀ (m2 : Mp), RV m2 S' w x u) ∧ GD g rows'

theorem conv0_sound : ConvOK conv0 := by
  intro w0 own m S w rows inv g v x u hg h hv
  unfold conv0 at h
  split at h
  · cases h; exact ⟨S, rows, inv, Ext.refl .., fun m2 => .d _ _ (RV_d_inv hv), hg⟩
  · cases h; cases hv; exact ⟨S, rows, inv, Ext.refl .., fun m2 => .nil, hg⟩
  · cases h
    cases hv with
    | fn _ _ arr hlen hd =>
      exact ⟨S, rows, inv, Ext.refl .., fun m2 => .fn _ _ arr hlen (fun j x v h => by simp at h), hg⟩
  · split at h
    · rename_i y us hd
      cases h
      obtain ⟨S', i1, e1, r1, g1, _, _⟩ := toD1_sound inv hg hd hv
      exact ⟨S', _, i1, e1, fun m2 => .d _ _ r1, g1⟩
    · cases h
  · cases h

theorem data_ext {m' : Mp} {S' : Nat → Prop} {w' : World} {xs : List V} {us : List Value} (h : ∀ (m2 : Mp), RVs m2 S w xs us.toArray) (e : Ext m S w m' S' w') : ∀ (m2 : Mp), RVs m2 S' w' xs us.toArray :=
  fun m2 => (h m2).ext (m' := m2) ⟨fun _ _ h => h, e.sub, e.cell, e.size⟩

theorem convs_sound {f : Look → V → Option V} (hf : ConvOK f) : ∀ {vs xs : List V} {us : List Value} {S : Nat → Prop} {rows : Rows} {g : Look}, Inv w0 own m S w rows → GD g rows → convsBy (f g) vs = some xs → RVs m S w vs us.toArray →
    ∃ S' rows', Inv w0 own m S' w rows' ∧ Ext m S w m S' w ∧ (∀ (m2 : Mp), RVs m2 S' w xs us.toArray) ∧ GD g rows'
  | [], xs, us, S, rows, g, inv, hg, h, hv => by
    simp [convsBy] at h; subst h
    exact ⟨S, rows, inv, Ext.refl .., fun m2 => ⟨by have := hv.1; simpa using this, fun j x v h => by simp at h⟩, hg⟩
  | v :: vs, xs, us, S, rows, g, inv, hg, h, hv => by
    cases us with
    | nil => have := hv.1; simp at this
    | cons u us =>
      simp only [convsBy] at h
      split at h
      · rename_i x l h1 h2
        cases h
        obtain ⟨S1, rows1, i1, e1, r1, g1⟩ := hf inv hg h1 (hv.2 0 v u rfl (by simp))
        obtain ⟨S2, rows2, i2, e2, r2, g2⟩ := convs_sound hf i1 g1 h2 ((RVs_tail hv).ext e1)
        refine ⟨S2, rows2, i2, e1.trans e2, fun m2 => ?_, g2⟩
        have ht := r2 m2
        refine ⟨by have := ht.1; simpa using this, fun j y z hy hz => ?_⟩
        cases j with
        | zero =>
          simp at hy hz; subst hy; subst hz
          exact (r1 m2).ext ⟨fun _ _ h => h, e2.sub, e2.cell, e2.size⟩
        | succ j => simp at hy hz; exact ht.2 j y z hy (by simpa using hz)
      · cases h

theorem conv1_sound : ConvOK conv1 := by
  intro w0 own m S w rows inv g v x u hg h hv
  unfold conv1 at h
  split at h
  · rename_i cs
    split at h
    · rename_i ds us hd
      cases h
      cases hv with
      | agg _ arr hlen hd' =>
      obtain ⟨S', i1, e1, ⟨l1, r1⟩, g1, _, _⟩ := toDs_sound (arr := arr.toList) inv hg hd (by rw [Array.toArray_toList]; exact ⟨hlen, hd'⟩)
      exact ⟨S', _, i1, e1, fun m2 => .d _ _ (.agg ds arr (by rw [← l1]; simp) (fun j d v a b => r1 j d v a (by simpa using b))), g1⟩
    · cases hc : convsBy (conv0 g) cs with
      | none => rw [hc] at h; cases h
      | some xs =>
        rw [hc] at h; cases h
        cases hv with
        | agg _ arr hlen hd' =>
        obtain ⟨S', rows', i1, e1, r1, g1⟩ := convs_sound (us := arr.toList) conv0_sound inv hg hc (by rw [Array.toArray_toList]; exact ⟨hlen, hd'⟩)
        refine ⟨S', rows', i1, e1, fun m2 => ?_, g1⟩
        have := r1 m2
        rw [Array.toArray_toList] at this
        exact .agg xs arr this.1 this.2
  · exact conv0_sound inv hg h hv

theorem convV_sound (inv : Inv w0 own m S w rows) {v x : V} {u : Value} (h : convV (liveAt rows) v = some x) (hv : RV m S w v u) :
    ∃ S' rows', Inv w0 own m S' w rows' ∧ (∀ (m2 : Mp), RV m2 S' w x u) := by
  unfold convV at h
  split at h
  · rename_i vs
    cases hc : convsBy (conv1 (liveAt rows)) vs with
    | none => rw [hc] at h; cases h
    | some xs =>
      rw [hc] at h; cases h
      cases hv with
      | tup _ arr hlen hd =>
      obtain ⟨S', rows', i1, e1, r1, _⟩ := convs_sound (us := arr.toList) conv1_sound inv (liveAt_ok rows).gd hc (by rw [Array.toArray_toList]; exact ⟨hlen, hd⟩)
      refine ⟨S', rows', i1, fun m2 => ?_⟩
      have := r1 m2
      rw [Array.toArray_toList] at this
      exact .tup xs arr this.1 this.2
  · obtain ⟨S', rows', i1, e1, r1, _⟩ := conv1_sound inv (liveAt_ok rows).gd h hv
    exact ⟨S', rows', i1, r1⟩

/-- where all rows are only read, the present world may be taken for the beginning -/
theorem Inv.rebase (inv : Inv w0 own m S w rows) (hro : ∀ (r : Nat) (row : Row), rows[r]? = some (Slot.live row) → row.rw = false) : Inv w ⟨fun _ => False, S⟩ m S w rows :=
  ⟨inv.none, inv.fre, inv.row, inv.bnd, fun r row b o h hw _ => (by rw [hro r row h] at hw; cases hw), inv.apart, inv.stab, inv.rost, inv.sbnd, fun b h => .inl h, fun b h => h, rfl, rfl, rfl, Nat.le_refl _, fun _ _ _ => rfl⟩

theorem cfg_ok {b : Base} (hb : BOK b) : ∀ n, COK (b.cfg n)
  | 0 => ⟨hb.T, hb.F, fun g args rows v h => (by cases h), hb.rc, hb.mixed⟩
  | n + 1 => by
    have ih := cfg_ok hb n
    refine ⟨hb.T, hb.F, fun g args rows v h w0 own m S w vs inv hro hargs => ?_, hb.rc, hb.mixed⟩
    simp only [Base.cfg] at h
    split at h
    · rename_i fr hen
      split at h
      · rename_i v' rows' hrun
        have hcalls := calls_of_run ih hen hrun (inv.rebase hro) hargs
        rw [cfg_P] at hcalls
        refine hcalls.mono fun e w' ⟨u, he, m', S', i1, r1⟩ => ⟨u, he, ?_⟩
        obtain ⟨S2, rows2, i2, r2⟩ := convV_sound i1 h r1
        refine ⟨S2, fun c hc => i2.stb c hc, fun c hc => ?_, r2, fun c hc => i2.kept c hc (fun h => h), i2.grow, i2.os, i2.tape, i2.output⟩
        rcases i2.base c hc with h1 | h1 | h1
        · exact .inl h1
        · exact .inr ⟨h1, i2.sbnd c hc⟩
        · exact h1.elim
      · cases h
    · cases h

/-- the value of a closed call -/
def closed (c : Cfg) (fuel : Nat) (g : FuncId) : Option V :=
  match enterA c g [] with
  | some fr => match aRun c fuel { fr, stack := [], rows := [] } with
    | .done v _ => some v
    | _ => none
  | none => none

theorem Inv.start (w : World) : Inv w ⟨fun _ => False, fun _ => False⟩ (fun _ => Option.none) (fun _ => False) w [] :=
  ⟨fun _ _ => rfl, fun r h => (by simp at h), fun r row h => (by simp at h), fun r b o h => (by cases h), fun r row b o h => (by simp at h), fun r r' row row' b o b' o' _ h => (by simp at h), fun r row b o h => (by simp at h),
    fun r row b o h => (by simp at h), fun b h => h.elim, fun b h => h.elim, fun b h => h.elim, rfl, rfl, rfl, Nat.le_refl _, fun _ _ _ => rfl⟩

theorem Inv.below {B : Own} (inv : Inv w0 B m S w rows) (hB : ∀ b, ¬ B b) : Below w0.heap.size w0 w :=
  ⟨inv.os, inv.tape, inv.output, inv.grow, fun k hk => inv.kept k hk (hB k)⟩

/-- A CLOSED CALL WHOSE VALUE IS true -/
theorem calls_of_closed {c : Cfg} (hc : COK c) {fuel : Nat} {g : FuncId} (h : closed c fuel g = some (.d (.bool true))) (w : World) :
    Calls c.P g #[] w fun e w' => e = .returned (.bool true) ∧ Below w.heap.size w w' := by
  unfold closed at h
  split at h
  · rename_i fr hen
    split at h
    · rename_i v rows' hrun
      cases h
      refine (calls_of_run hc hen hrun (Inv.start w) RVs.nil).mono fun e w' ⟨u, he, m', S', i1, r1⟩ => ?_
      have := bool_inv r1
      subst this
      exact ⟨he, i1.below (fun b h => h)⟩
    · cases h
  · cases h

end Go.Aev
end
/- AevSym -/
section
/- Runs over open values: conditions are laid beside the result. -/
namespace Go.Aev

def AllP : List Prop → Prop
  | [] => True
  | p :: r => p ∧ AllP r

theorem AllP_append {a b : List Prop} (h : AllP (a ++ b)) : AllP a ∧ AllP b := by
  induction a with
  | nil => exact ⟨trivial, h⟩
  | cons p a ih => exact ⟨⟨h.1, (ih h.2).1⟩, (ih h.2).2⟩

/-- what the prover tells a run: the elements of rows and of lists, and a mode -/
structure Hint where
  row : Nat → Option (Nat → D) := fun _ => none
  lst : Nat → Option (Nat → D) := fun _ => none
  md : Nat := 0
  gd : Nat → Option Bool := fun _ => none

/-- the hint for a list in a temporary -/
def Hint.at (h : Hint) : Operand → Option (Nat → D)
  | .tmp t => h.lst t
  | _ => none

def sIndexAddr (T : TypeId → Option Ty) (fh : Option (Nat → D)) (t : TypeId) (x ix : V) : Option (List Prop × V) :=
  match T t, ix with
  | some y, .d (.int _ n) => match y.desc with
    | .slice e => match T e with
      | some z => match x with
        | .sl r k off len _ _ => some ([k = z.size ∧ 0 ≤ n ∧ n < (len : Int)], .pt r k (off + n.toNat) 0)
        | .d (.list es) => match fh with
          | some fh => some ([0 ≤ n ∧ n < (es.length : Int), es[n.toNat]? = some (fh n.toNat), (fh n.toNat).cells.length = z.size], .dp (fh n.toNat))
          | none => none
        | _ => none
      | none => none
    | _ => none
  | _, _ => none

theorem sIndexAddr_sound {T : TypeId → Option Ty} {h : Option (Nat → D)} {t : TypeId} {x ix v : V} {ps : List Prop} (e : sIndexAddr T h t x ix = some (ps, v)) (hp : AllP ps) : indexAddrA T t x ix = some v := by
  unfold sIndexAddr at e
  unfold indexAddrA
  split at e
  · rename_i y q n hy
    rw [hy]
    simp only at e ⊢
    split at e
    · rename_i el hd
      simp only [hd]
      split at e
      · rename_i z hz
        simp only [hz]
        split at e
        · cases e
          simp only
          rw [if_pos hp.1]
        · split at e
          · rename_i es fh
            cases e
            obtain ⟨h1, h2, h3, _⟩ := hp
            simp only
            rw [if_pos h1, h2]
            simp only
            rw [if_pos h3]
          · cases e
        · cases e
      · cases e
    · cases e
  · cases e

/-- a cell, or some cells, of an element -/
def loadE (y : Ty) (k f : Nat) (e : D) : Option V :=
  if y.agg then
    if f = 0 ∧ y.size = k then some (.d (.agg e.cells))
    else if f + y.size ≤ k then some (.d (.agg ((e.cells.drop f).take y.size))) else none
  else match e.cells[f]? with
    | some c => some (.d c)
    | none => none

def sLoad (T : TypeId → Option Ty) (h : Hint) (g : Look) (t : TypeId) (a : V) : Option (List Prop × V) :=
  match a with
  | .pt r k i f => match h.row r with
    | some fh => match T t, g r with
      | some y, some (.dat k' es _) => match loadE y k f (fh i) with
        | some v => some ([k = k' ∧ es[i]? = some (fh i)], v)
        | none => none
      | _, _ => none
    | none => none
  | _ => none

theorem sLoad_sound {T : TypeId → Option Ty} {h : Hint} {g : Look} {t : TypeId} {a v : V} {ps : List Prop} (e : sLoad T h g t a = some (ps, v)) (hp : AllP ps) : loadA T g t a = some v := by
  unfold sLoad at e
  split at e
  · rename_i r k i f
    split at e
    · rename_i fh hfh
      split at e
      · rename_i y k' es ro hy hg
        split at e
        · rename_i v' hl
          cases e
          obtain ⟨⟨h1, h2⟩, _⟩ := hp
          unfold loadA
          simp only [hy, hg]
          rw [if_pos h1, h2]
          exact hl
        · cases e
      · cases e
    · cases e
  · cases e

def sNat (o : Option V) (d : Nat) : Option (List Prop × Nat) :=
  match o with
  | none => some ([], d)
  | some (.d (.int _ n)) => some ([0 ≤ n], n.toNat)
  | _ => none

theorem sNat_sound {o : Option V} {d n : Nat} {ps : List Prop} (e : sNat o d = some (ps, n)) (hp : AllP ps) : natOf o d = some n := by
  unfold sNat at e
  split at e
  · cases e; rfl
  · cases e
    simp only [natOf]
    rw [if_pos hp.1]
  · cases e

def sSlice (T : TypeId → Option Ty) (t : TypeId) (x : V) (lo hi mx : Option V) : Option (List Prop × V) :=
  match T t with
  | some y => match y.desc, x with
    | .slice e, .sl r k off len c ex => match T e, sNat lo 0, sNat hi len with
      | some z, some (p1, l), some (p2, h) => match mx with
        | none => some (p1 ++ (p2 ++ [k = z.size ∧ l ≤ h ∧ h ≤ len]), .sl r k (off + l) (h - l) (c - l) ex)
        | some _ => match sNat mx 0 with
          | some (p3, m) => some (p1 ++ (p2 ++ (p3 ++ [k = z.size ∧ l ≤ h ∧ h ≤ len ∧ h ≤ m ∧ m ≤ c ∧ hi.isSome = true])), .sl r k (off + l) (h - l) (m - l) true)
          | none => none
      | _, _, _ => none
    | .slice e, .d (.list es) => match T e, sNat lo 0, sNat hi es.length, mx with
      | some z, some (p1, l), some (p2, h), none => some (p1 ++ (p2 ++ [l ≤ h ∧ h ≤ es.length, es.all (fun e => e.cells.length == z.size) = true]), .d (.list ((es.drop l).take (h - l))))
      | _, _, _, _ => none
    | _, _ => none
  | none => none

theorem sSlice_sound {T : TypeId → Option Ty} {g : Look} {t : TypeId} {x v : V} {lo hi mx : Option V} {ps : List Prop} (e : sSlice T t x lo hi mx = some (ps, v)) (hp : AllP ps) : sliceA T g t x lo hi mx = some v := by
  unfold sSlice at e
  unfold sliceA
  split at e
  · rename_i y hy
    rw [hy]
    simp only
    split at e
    · rename_i el r k off len c ex hd
      simp only [hd]
      split at e
      · rename_i z p1 l p2 h hz hlo hhi
        split at e
        · cases e
          obtain ⟨h1, h2⟩ := AllP_append hp
          obtain ⟨h3, h4⟩ := AllP_append h2
          simp only [hz, sNat_sound hlo h1, sNat_sound hhi h3]
          rw [if_pos ⟨h4.1.1, h4.1.2.1, .inl h4.1.2.2⟩]
        · split at e
          · rename_i p3 m hmx
            cases e
            obtain ⟨h1, h2⟩ := AllP_append hp
            obtain ⟨h3, h4⟩ := AllP_append h2
            obtain ⟨h5, h6⟩ := AllP_append h4
            obtain ⟨⟨a1, a2, a3, a4, a5, a6⟩, _⟩ := h6
            simp only [hz, sNat_sound hlo h1, sNat_sound hhi h3]
            rw [if_pos ⟨a1, a2, .inl a3⟩]
            simp only [sNat_sound hmx h5]
            rw [if_pos ⟨a4, a5, a6⟩]
          · cases e
      · cases e
    · rename_i el es hd
      simp only [hd]
      split at e
      · rename_i z p1 l p2 h hz hlo hhi
        cases e
        obtain ⟨h1, h2⟩ := AllP_append hp
        obtain ⟨h3, ⟨h4, h5⟩, h6, _⟩ := AllP_append h2
        simp only [hz, sNat_sound hlo h1, sNat_sound hhi h3]
        rw [if_pos ⟨h4, h5, h6⟩]
      · cases e
    · cases e
  · cases e

/-- a slice up to its capacity, as far as the row reaches -/
def sSliceC (T : TypeId → Option Ty) (g : Look) (t : TypeId) (x : V) (lo hi mx : Option V) : Option (List Prop × V) :=
  match T t with
  | some y => match y.desc, x with
    | .slice e, .sl r k off len c ex => match T e, sNat lo 0, sNat hi len, g r with
      | some z, some (p1, l), some (p2, h), some (.dat _ es _) => match mx with
        | none => some (p1 ++ (p2 ++ [k = z.size ∧ l ≤ h ∧ h ≤ c ∧ off + h ≤ es.length]), .sl r k (off + l) (h - l) (c - l) ex)
        | some _ => match sNat mx 0 with
          | some (p3, m) => some (p1 ++ (p2 ++ (p3 ++ [k = z.size ∧ l ≤ h ∧ h ≤ c ∧ off + h ≤ es.length ∧ h ≤ m ∧ m ≤ c ∧ hi.isSome = true])), .sl r k (off + l) (h - l) (m - l) true)
          | none => none
      | _, _, _, _ => none
    | _, _ => none
  | none => none

theorem sSliceC_sound {T : TypeId → Option Ty} {g : Look} {t : TypeId} {x v : V} {lo hi mx : Option V} {ps : List Prop} (e : sSliceC T g t x lo hi mx = some (ps, v)) (hp : AllP ps) : sliceA T g t x lo hi mx = some v := by
  unfold sSliceC at e
  unfold sliceA
  split at e
  · rename_i y hy
    rw [hy]
    simp only
    split at e
    · rename_i el r k off len c ex hd
      simp only [hd]
      split at e
      · rename_i z p1 l p2 h es ro hz hlo hhi hg
        split at e
        · cases e
          obtain ⟨h1, h2⟩ := AllP_append hp
          obtain ⟨h3, ⟨a1, a2, a3, a4⟩, _⟩ := AllP_append h2
          simp only [hz, sNat_sound hlo h1, sNat_sound hhi h3]
          rw [if_pos ⟨a1, a2, .inr ⟨a3, by simp only [rowHas, hg]; exact decide_eq_true a4⟩⟩]
        · split at e
          · rename_i p3 m hmx
            cases e
            obtain ⟨h1, h2⟩ := AllP_append hp
            obtain ⟨h3, h4⟩ := AllP_append h2
            obtain ⟨h5, h6⟩ := AllP_append h4
            obtain ⟨⟨a1, a2, a3, b3, a4, a5, a6⟩, _⟩ := h6
            simp only [hz, sNat_sound hlo h1, sNat_sound hhi h3]
            rw [if_pos ⟨a1, a2, .inr ⟨a3, by simp only [rowHas, hg]; exact decide_eq_true b3⟩⟩]
            simp only [sNat_sound hmx h5]
            rw [if_pos ⟨a4, a5, a6⟩]
          · cases e
      · cases e
    · cases e
  · cases e

def sElems (g : Look) (k : Nat) : V → Option (List Prop × List D)
  | .nil => some ([], [])
  | .d (.list es) => some ([es.all (fun e => e.cells.length == k) = true], es)
  | .sl r k' off len _ _ => match g r with
    | some (.dat k'' es _) => some ([k = k' ∧ k' = k'' ∧ off + len ≤ es.length], (es.drop off).take len)
    | _ => none
  | _ => none

theorem sElems_sound {g : Look} {k : Nat} {v : V} {ps : List Prop} {ds : List D} (e : sElems g k v = some (ps, ds)) (hp : AllP ps) : elemsA g k v = some ds := by
  unfold sElems at e
  unfold elemsA
  split at e
  · cases e; rfl
  · cases e
    simp only
    rw [if_pos hp.1]
  · rename_i r k' off len c ex
    split at e
    · rename_i k'' es ro hg
      cases e
      simp only [hg]
      rw [if_pos hp.1]
    · cases e
  · cases e

/-- an append that grows (mode 1), or fits (mode 2) -/
def sAppend (T : TypeId → Option Ty) (md : Nat) (g : Look) (slot : Nat) (t u : TypeId) (s x : V) : Option (List Prop × Res) :=
  match T t, T u with
  | some y, some yu => match y.desc, yu.desc with
    | .slice e, .slice _ => match T e with
      | some z => match sElems g z.size x with
        | some (p, ds) => match s with
          | .nil => some (p ++ [0 < z.size ∧ ds.length ≠ 0 ∧ 2 * ds.length * z.bytes ≤ 2 ^ 48 ∧ ds.length ≤ 2 ^ 62], { v := .sl slot z.size 0 ds.length ds.length false, fresh := some (.dat z.size ds false) })
          | .sl r k off len c ex => match g r with
            | some (.dat k' es ro) =>
              if md = 3 then some (p ++ [0 < z.size ∧ ds.length = 0], { v := .sl r k off len c ex })
              else if md = 2 then
                match ro with
                | true => none
                | false => some (p ++ [0 < z.size ∧ ds.length ≠ 0 ∧ k = z.size ∧ k' = k ∧ off + len ≤ es.length ∧ len + ds.length ≤ c],
                    { v := .sl r k off (len + ds.length) c ex, ups := [(r, .live (.dat k' (es.take (off + len) ++ ds ++ es.drop (off + len + ds.length)) false))] })
              else match ex, ro with
                | true, _ => some (p ++ [0 < z.size ∧ ds.length ≠ 0 ∧ k = z.size ∧ k' = k ∧ off + len ≤ es.length ∧ ¬ len + ds.length ≤ c ∧ 2 * (len + ds.length) * z.bytes ≤ 2 ^ 48 ∧ len + ds.length ≤ 2 ^ 62],
                    { v := .sl slot k 0 (len + ds.length) (len + ds.length) false, fresh := some (.dat k' ((es.drop off).take len ++ ds) false) })
                | false, false => some (p ++ [0 < z.size ∧ ds.length ≠ 0 ∧ k = z.size ∧ k' = k ∧ off + len ≤ es.length ∧ ¬ len + ds.length ≤ c ∧ 2 * (len + ds.length) * z.bytes ≤ 2 ^ 48 ∧ len + ds.length ≤ 2 ^ 62],
                    { v := .sl slot k 0 (len + ds.length) (len + ds.length) false, ups := [(r, .dead)], fresh := some (.dat k' ((es.drop off).take len ++ ds) false) })
                | _, _ => none
            | _ => none
          | _ => none
        | none => none
      | none => none
    | _, _ => none
  | _, _ => none

theorem sAppend_sound {T : TypeId → Option Ty} {md : Nat} {g : Look} {slot : Nat} {t u : TypeId} {s x : V} {ps : List Prop} {res : Res} (e : sAppend T md g slot t u s x = some (ps, res)) (hp : AllP ps) : appendA T g slot t u s x = some res := by
  unfold sAppend at e
  unfold appendA
  split at e
  · rename_i y yu hy hyu
    simp only [hy, hyu]
    split at e
    · rename_i el _ hd hdu
      simp only [hd, hdu]
      split at e
      · rename_i z hz
        simp only [hz]
        split at e
        · rename_i p ds hel
          split at e
          · cases e
            obtain ⟨h1, ⟨a1, a2, a3, a4⟩, _⟩ := AllP_append hp
            simp only [sElems_sound hel h1]
            rw [if_pos a1, if_neg a2, if_pos ⟨a3, a4⟩]
          · rename_i r k off len c ex
            split at e
            · rename_i k' es ro hg
              split at e
              · cases e
                obtain ⟨h1, ⟨a1, a2⟩, _⟩ := AllP_append hp
                simp only [sElems_sound hel h1, hg]
                rw [if_pos a1, if_pos a2]
              split at e
              · split at e
                · cases e
                · cases e
                  obtain ⟨h1, ⟨a1, a2, a3, a4, a5, a6⟩, _⟩ := AllP_append hp
                  simp only [sElems_sound hel h1, hg]
                  rw [if_pos a1, if_neg a2, if_pos ⟨a3, a4, a5⟩, if_pos a6]
                  rfl
              · split at e
                · cases e
                  obtain ⟨h1, ⟨a1, a2, a3, a4, a5, a6, a7, a8⟩, _⟩ := AllP_append hp
                  simp only [sElems_sound hel h1, hg]
                  rw [if_pos a1, if_neg a2, if_pos ⟨a3, a4, a5⟩, if_neg a6, if_pos ⟨a7, a8⟩]
                  rfl
                · cases e
                  obtain ⟨h1, ⟨a1, a2, a3, a4, a5, a6, a7, a8⟩, _⟩ := AllP_append hp
                  simp only [sElems_sound hel h1, hg]
                  rw [if_pos a1, if_neg a2, if_pos ⟨a3, a4, a5⟩, if_neg a6, if_pos ⟨a7, a8⟩]
                  rfl
                · cases e
            · cases e
          · cases e
        · cases e
      · cases e
    · cases e
  · cases e

def sCopy (T : TypeId → Option Ty) (g : Look) (t : TypeId) (d s : V) : Option (List Prop × Res) :=
  match T t with
  | some y => match y.desc with
    | .slice e => match T e with
      | some z => match d, sElems g z.size s with
        | .sl r k off len _ _, some (p, ds) => match g r with
          | some (.dat k' es false) => some (p ++ [k = z.size ∧ k' = k ∧ off + len ≤ es.length],
              { v := .d (.int .i64 (min ds.length len : Nat)), ups := [(r, .live (.dat k' (es.take off ++ ds.take (min ds.length len) ++ es.drop (off + min ds.length len)) false))] })
          | _ => none
        | _, _ => none
      | none => none
    | _ => none
  | none => none

theorem sCopy_sound {T : TypeId → Option Ty} {g : Look} {t : TypeId} {d s : V} {ps : List Prop} {res : Res} (e : sCopy T g t d s = some (ps, res)) (hp : AllP ps) : copyA T g t d s = some res := by
  unfold sCopy at e
  unfold copyA
  split at e
  · rename_i y hy
    simp only [hy]
    split at e
    · rename_i el hd
      simp only [hd]
      split at e
      · rename_i z hz
        simp only [hz]
        split at e
        · rename_i r k off len c ex p ds hel
          split at e
          · rename_i k' es hg
            cases e
            obtain ⟨h1, h2, _⟩ := AllP_append hp
            simp only [sElems_sound hel h1, hg]
            rw [if_pos h2]
          · cases e
        · cases e
      · cases e
    · cases e
  · cases e

def sClear (T : TypeId → Option Ty) (g : Look) (t : TypeId) (d : V) : Option (List Prop × Res) :=
  match T t with
  | some y => match y.desc with
    | .slice e => match T e with
      | some z => match d with
        | .sl r k off len _ _ => match g r, ofVals z.zero.cells.toList with
          | some (.dat k' es false), some zs => match toDs (fun _ => none) zs with
            | some (ds, _) => some ([k = z.size ∧ k' = k ∧ 0 < k ∧ off + len ≤ es.length ∧ zs.length = z.size],
                { v := V.undef, ups := [(r, .live (.dat k' (es.take off ++ List.replicate len (mkElem z.agg ds) ++ es.drop (off + len)) false))] })
            | none => none
          | _, _ => none
        | _ => none
      | none => none
    | _ => none
  | none => none

theorem sClear_sound {T : TypeId → Option Ty} {g : Look} {t : TypeId} {d : V} {ps : List Prop} {res : Res} (e : sClear T g t d = some (ps, res)) (hp : AllP ps) : clearA T g t d = some res := by
  unfold sClear at e
  unfold clearA
  split at e
  · rename_i y hy
    simp only [hy]
    split at e
    · rename_i el hd
      simp only [hd]
      split at e
      · rename_i z hz
        simp only [hz]
        split at e
        · rename_i r k off len c ex
          split at e
          · rename_i k' es zs hg hzs
            split at e
            · rename_i ds us hds
              cases e
              simp only [hg, hzs, hds]
              rw [if_pos hp.1]
            · cases e
          · cases e
        · cases e
      · cases e
    · cases e
  · cases e

/-- a store into an element that is there -/
def sStore (T : TypeId → Option Ty) (h : Hint) (g : Look) (t : TypeId) (a x : V) : Option (List Prop × Res) :=
  match a, T t with
  | .pt r k i f, some y => match g r with
    | some (.dat k' es false) => match toDs g x.cells with
      | some (ds, us) => match (if f = 0 ∧ y.size = k then none else h.row r) with
        | some fh => some ([x.cells.length = y.size ∧ 0 < y.size ∧ x.cells.all V.one = true, es[i]? = some (fh i), k = k' ∧ f + y.size ≤ k ∧ us.all (fun u => u.1 != r) = true],
            { v := V.undef, ups := us ++ [(r, .live (.dat k' (es.set i (if f = 0 ∧ y.size = k then mkElem y.agg ds else D.agg (patch (fh i).cells f ds))) false))] })
        | none => some ([x.cells.length = y.size ∧ 0 < y.size ∧ x.cells.all V.one = true, i < es.length, k = k' ∧ f = 0 ∧ y.size = k ∧ us.all (fun u => u.1 != r) = true],
            { v := V.undef, ups := us ++ [(r, .live (.dat k' (es.set i (mkElem y.agg ds)) false))] })
      | none => none
    | _ => none
  | _, _ => none

theorem sStore_sound {T : TypeId → Option Ty} {h : Hint} {g : Look} {t : TypeId} {a x : V} {ps : List Prop} {res : Res} (e : sStore T h g t a x = some (ps, res)) (hp : AllP ps) : storeA T g t a x = some res := by
  unfold sStore at e
  unfold storeA
  split at e
  · rename_i r k i f y hy
    simp only [hy]
    split at e
    · rename_i k' es hg
      split at e
      · rename_i ds us hds
        split at e
        · rename_i fh hfh
          cases e
          obtain ⟨a1, a2, a3, _⟩ := hp
          rw [if_pos a1]
          simp only [hg, hds, a2]
          rw [if_pos a3]
        · cases e
          obtain ⟨a1, a2, ⟨b1, b2, b3, b4⟩, _⟩ := hp
          rw [if_pos a1]
          simp only [hg, hds, List.getElem?_eq_getElem a2]
          rw [if_pos ⟨b1, by omega, b4⟩, if_pos ⟨b2, b3⟩]
      · cases e
    · cases e
  · cases e

/-- a slice that has room against nil -/
def sNilEq (T : TypeId → Option Ty) (op : BinOp) (t : TypeId) (x y : V) : Option (List Prop × V) :=
  match x, y with
  | .sl _ _ _ _ c _, .nil => match T t with
    | some z => match z.desc, op with
      | .slice _, .eql => some ([0 < c], .d (.bool false))
      | .slice _, .neq => some ([0 < c], .d (.bool true))
      | _, _ => none
    | none => none
  | .d (.list es), .nil => match T t with
    | some z => match z.desc, op with
      | .slice _, .eql => some ([es ≠ []], .d (.bool false))
      | .slice _, .neq => some ([es ≠ []], .d (.bool true))
      | _, _ => none
    | none => none
  | _, _ => none

theorem sNilEq_sound {T : TypeId → Option Ty} {op : BinOp} {t : TypeId} {x y v : V} {ps : List Prop} (e : sNilEq T op t x y = some (ps, v)) (hp : AllP ps) : binA T op t x y = some v := by
  unfold sNilEq at e
  split at e
  · rename_i r k off len c ex
    split at e
    · rename_i z hz
      split at e
      · rename_i el hd
        cases e
        obtain ⟨c', rfl⟩ : ∃ c', c = c' + 1 := ⟨c - 1, by have := hp.1; omega⟩
        simp only [binA, eqA, hz, nilEq, hd]
      · rename_i el hd
        cases e
        obtain ⟨c', rfl⟩ : ∃ c', c = c' + 1 := ⟨c - 1, by have := hp.1; omega⟩
        simp only [binA, eqA, hz, nilEq, hd]
        rfl
      · cases e
    · cases e
  · rename_i es
    split at e
    · rename_i z hz
      split at e
      · rename_i el hd
        cases e
        cases es with
        | nil => exact absurd rfl hp.1
        | cons x es =>
          simp only [binA, eqA, hz, nilEq, hd]
      · rename_i el hd
        cases e
        cases es with
        | nil => exact absurd rfl hp.1
        | cons x es =>
          simp only [binA, eqA, hz, nilEq, hd]
          rfl
      · cases e
    · cases e
  · cases e

/-- sums, differences and products of int that do not wrap -/
def inInt (n : Int) : Prop := -9223372036854775808 ≤ n ∧ n ≤ 9223372036854775807

theorem wrap_in {n : Int} (h : inInt n) : IntKind.wrap .i64 n = n := by
  unfold inInt at h
  simp [IntKind.wrap, IntKind.bits, IntKind.signed]
  omega

def sArith (op : BinOp) (x y : V) : Option (List Prop × V) :=
  match x, y with
  | .d (.int .i64 a), .d (.int .i64 b) => match op with
    | .add => some ([inInt (a + b)], .d (.int .i64 (a + b)))
    | .sub => some ([inInt (a - b)], .d (.int .i64 (a - b)))
    | .mul => some ([inInt (a * b)], .d (.int .i64 (a * b)))
    | _ => none
  | _, _ => none

theorem sArith_sound {T : TypeId → Option Ty} {op : BinOp} {t : TypeId} {x y v : V} {ps : List Prop} (e : sArith op x y = some (ps, v)) (hp : AllP ps) : binA T op t x y = some v := by
  unfold sArith at e
  split at e
  · split at e
    · cases e; simp only [binA, if_true, intBin, Option.map_some, wrap_in hp.1]
    · cases e; simp only [binA, if_true, intBin, Option.map_some, wrap_in hp.1]
    · cases e; simp only [binA, if_true, intBin, Option.map_some, wrap_in hp.1]
    · cases e
  · cases e

/-- a choice that the prover makes -/
def sPick (h : Hint) (c : Operand) (b : Bool) (x y : V) : Option (List Prop × V) :=
  match c with
  | .tmp t => match h.gd t with
    | some v => some ([b = v], match v with | true => x | false => y)
    | none => none
  | _ => none

theorem sPick_sound {h : Hint} {c : Operand} {b : Bool} {x y v : V} {ps : List Prop} (e : sPick h c b x y = some (ps, v)) (hp : AllP ps) : (if b then x else y) = v := by
  unfold sPick at e
  split at e
  · split at e
    · rename_i bv _
      cases e
      have := hp.1
      subst this
      cases b <;> rfl
    · cases e
  · cases e

def one (r : Option (List Prop × V)) : Option (List Prop × Res) := r.map fun p => (p.1, { v := p.2 })
def dflt (r : Option Res) : Option (List Prop × Res) := r.map fun x => ([], x)
def orElse (a b : Option (List Prop × Res)) : Option (List Prop × Res) :=
  match a with
  | some x => some x
  | none => b

/-- an operation with its conditions -/
def sAct (T : TypeId → Option Ty) (h : Hint) (g : Look) (slot : Nat) (o : Op) (vs : List V) : Option (List Prop × Res) :=
  match o with
  | .indexAddr t a _ => match vs with
    | [x, i] => orElse (one (sIndexAddr T (h.at a) t x i)) (dflt (act T g slot o vs))
    | _ => none
  | .load t _ => match vs with
    | [a] => orElse (one (sLoad T h g t a)) (dflt (act T g slot o vs))
    | _ => none
  | .store t _ _ => match vs with
    | [a, x] => orElse (sStore T h g t a x) (dflt (act T g slot o vs))
    | _ => none
  | .slice t _ l hh mx => match vs with
    | x :: vs' => orElse (match Nat.ble 2 h.md with
        | true => one (sSliceC T g t x (takeOpt l vs').1 (takeOpt hh (takeOpt l vs').2).1 (takeOpt mx (takeOpt hh (takeOpt l vs').2).2).1)
        | false => none) (orElse (one (sSlice T t x (takeOpt l vs').1 (takeOpt hh (takeOpt l vs').2).1 (takeOpt mx (takeOpt hh (takeOpt l vs').2).2).1)) (dflt (act T g slot o vs)))
    | _ => none
  | .binOp op t _ _ _ => match vs with
    | [x, y] => orElse (one (sArith op x y)) (orElse (one (sNilEq T op t x y)) (dflt (act T g slot o vs)))
    | _ => none
  | .pick c _ _ => match vs with
    | [.d (.bool b), x, y] => orElse (one (sPick h c b x y)) (dflt (act T g slot o vs))
    | _ => none
  | .call c => match c.callee with
    | .builtin .append => match h.md with
      | 0 => dflt (act T g slot o vs)
      | md => match c.argTypes.toList, vs with
        | [t, u], [s, x] => sAppend T md g slot t u s x
        | _, _ => none
    | .builtin .copy => match c.argTypes.toList, vs with
      | [t, _], [d, s] => sCopy T g t d s
      | _, _ => none
    | .builtin .clear => match c.argTypes.toList, vs with
      | [t], [d] => orElse (sClear T g t d) (dflt (act T g slot o vs))
      | _, _ => none
    | _ => dflt (act T g slot o vs)
  | _ => dflt (act T g slot o vs)

theorem orElse_sound {a b : Option (List Prop × Res)} {r : Option Res} (ha : ∀ ps res, a = some (ps, res) → AllP ps → r = some res) (hb : ∀ ps res, b = some (ps, res) → AllP ps → r = some res) {ps : List Prop} {res : Res}
    (e : orElse a b = some (ps, res)) (hp : AllP ps) : r = some res := by
  unfold orElse at e
  split at e
  · cases e; exact ha _ _ rfl hp
  · exact hb _ _ e hp

theorem dflt_sound {r : Option Res} (ps : List Prop) (res : Res) (e : dflt r = some (ps, res)) (_ : AllP ps) : r = some res := by
  unfold dflt at e
  cases r with
  | none => cases e
  | some x => cases e; rfl

theorem one_sound' {a : Option (List Prop × V)} {r : Option V} (h : ∀ ps v, a = some (ps, v) → AllP ps → r = some v) (ps : List Prop) (res : Res) (e : one a = some (ps, res)) (hp : AllP ps) : (r.map fun v => ({ v } : Res)) = some res := by
  unfold one at e
  cases a with
  | none => cases e
  | some p => cases e; rw [h _ _ rfl hp]; rfl

theorem sAct_sound {T : TypeId → Option Ty} {h : Hint} {g : Look} {slot : Nat} {o : Op} {vs : List V} {ps : List Prop} {res : Res} (e : sAct T h g slot o vs = some (ps, res)) (hp : AllP ps) : act T g slot o vs = some res := by
  unfold sAct at e
  split at e
  · split at e
    · exact orElse_sound (one_sound' fun ps v e hp => sIndexAddr_sound e hp) dflt_sound e hp
    · cases e
  · split at e
    · exact orElse_sound (one_sound' fun ps v e hp => sLoad_sound e hp) dflt_sound e hp
    · cases e
  · split at e
    · exact orElse_sound (fun ps v e hp => sStore_sound e hp) dflt_sound e hp
    · cases e
  · split at e
    · refine orElse_sound (fun ps res e hp => ?_) (fun ps res e hp => orElse_sound (one_sound' fun ps v e hp => sSlice_sound (g := g) e hp) dflt_sound e hp) e hp
      split at e
      · exact one_sound' (fun ps v e hp => sSliceC_sound (g := g) e hp) ps res e hp
      · cases e
    · cases e
  · split at e
    · exact orElse_sound (one_sound' fun ps v e hp => sArith_sound e hp) (fun ps res e hp => orElse_sound (one_sound' fun ps v e hp => sNilEq_sound e hp) dflt_sound e hp) e hp
    · cases e
  · rename_i cnd _ _
    split at e
    · rename_i b x y
      refine orElse_sound (fun ps res e hp => ?_) dflt_sound e hp
      unfold one at e
      cases hq : sPick h cnd b x y with
      | none => rw [hq] at e; cases e
      | some p =>
        rw [hq] at e
        cases e
        have := sPick_sound (v := p.2) (ps := p.1) hq hp
        simp only [act]
        rw [this]
    · cases e
  · rename_i c
    split at e
    · rename_i hc
      split at e
      · exact dflt_sound _ _ e hp
      · split at e
        · rename_i t u s x hts
          simp only [act, hc, hts]
          exact sAppend_sound e hp
        · cases e
    · rename_i hc
      split at e
      · rename_i t u d s hts
        simp only [act, hc, hts]
        exact sCopy_sound e hp
      · cases e
    · rename_i hc
      split at e
      · rename_i t d hts
        refine orElse_sound (fun ps v e hp => ?_) dflt_sound e hp
        simp only [act, hc, hts]
        exact sClear_sound e hp
      · cases e
    · exact dflt_sound _ _ e hp
  · exact dflt_sound _ _ e hp

end Go.Aev
end
