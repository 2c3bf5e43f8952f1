/- Lemmas for the statements of this seat: an abstract machine that the model follows, and contracts of functions. Conditions: none. -/
import Derived.Test.YtmphkalnipcijaaGreatA16
import Derived.Test.YtmphkalnipcijaaGreatRows
import Derived.ProofKit
set_option linter.unusedVariables false
set_option linter.unusedSimpArgs false
/- M33Join -/
section
/- From a contract over lists to the call with a slice as it came. -/
namespace Go.Aev.M33
open Go.ChangeShapes Go.WideShapes Go.ChangeAt Go.RowKit
set_option maxRecDepth 100000

theorem flat_ints' (l : List Int) : flat (ints l) = ints l := by
  unfold flat ints
  induction l with
  | nil => rfl
  | cons a l ih => simp only [List.map_cons, List.flatMap_cons, ih]; rfl

theorem inv_given (W : World) (S : Nat → Prop) (hS : ∀ b, S b → b < W.heap.size) : Inv W ⟨fun _ => False, S⟩ (fun _ => none) S W [] :=
  ⟨fun _ _ => rfl, fun r h => (by simp at h), fun r row h => (by simp at h), fun r b o h => (by cases h), fun r row b o h => (by simp at h), fun r r' row row' b o b' o' _ h => (by simp at h), fun r row b o h => (by simp at h),
    fun r row b o h => (by simp at h), hS, fun b h => .inl h, fun b h => h, rfl, rfl, rfl, Nat.le_refl _, fun _ _ _ => rfl⟩

theorem calls_of_rcs {f : FuncId} {x : V} (h : RCs PP f [x] [] (B true)) {W : World} {S : Nat → Prop} (hS : ∀ b, S b → b < W.heap.size) {u : Value} (hu : RV (fun _ => none) S W x u) :
    Calls PP f #[u] W fun e W' => e = .returned (.bool true) ∧ Below W.heap.size W W' := by
  refine (h W _ _ S W #[u] (inv_given W S hS) (fun r row h => by simp at h) ⟨rfl, fun j y v hy hv => ?_⟩).mono fun e w' ⟨v, he, S', _, _, hr, hb, hs, ho, ht, hout⟩ => ?_
  · cases j with
    | zero => simp at hy hv; subst hy; subst hv; exact hu
    | succ j => simp at hy
  · have := bool_inv (hr (fun _ => none))
    subst this
    exact ⟨he, ho, ht, hout, hs, hb⟩

theorem cells3 : PP.cellsOf 3 = 1 := by kernel_rfl

theorem calls_ints {f : FuncId} (h : ∀ a : List Int, a.length ≤ 4611686018427387904 → RCs PP f [L a] [] (B true)) {H : Type} {enc : TypeId × Value → H} {W : World} {a0 : Option Addr} {len cap : Nat} {d0 : DataW H} {p : List MemPlace}
    (h0 : DataW.Trod enc PP W 0 (fun _ => true) true 22 (.slice a0 len cap) d0 p) (hsz : ∀ elems spare, d0 = .slice elems spare → elems.length ≤ 4611686018427387904) : Calls PP f #[.slice a0 len cap] W fun e W' => e = .returned (.bool true) ∧ Below W.heap.size W W' := by
  obtain ⟨fuel, hf⟩ := h0
  rcases open_ints (k := .i64) Go.Proofs.Tryz.underlying22 Go.Proofs.Tryz.underlying3 cells3 hf with ⟨hcs, _⟩ | ⟨a, len', cap', zs, hcs, _, hl, hm, hz, hx, hcell, _⟩
  · simp [Value.cells] at hcs
    obtain ⟨rfl, rfl, rfl⟩ := hcs
    exact calls_of_rcs (S := fun _ => False) (h [] (by simp)) (fun b h => h.elim) (.d _ _ (.emp _ _))
  · simp [Value.cells] at hcs
    obtain ⟨rfl, rfl, rfl⟩ := hcs
    simp only [if_true] at hz
    simp only [Prod.mk.injEq] at hx
    have hsz' := hsz _ _ hx.1
    by_cases hlen : len = 0
    · subst hlen
      exact calls_of_rcs (S := fun _ => False) (h [] (by simp)) (fun b h => h.elim) (.d _ _ (.emp _ _))
    · have hc0 := hcell 0 (by omega)
      obtain ⟨b, o, spot⟩ := a
      have hblk : b < W.heap.size ∧ spot = none := by
        unfold World.cell? at hc0
        split at hc0
        · rename_i c e fz hb
          simp only [Addr.add] at hb hc0
          refine ⟨(Array.getElem?_eq_some_iff.1 hb).1, ?_⟩
          cases spot with
          | none => rfl
          | some s => simp at hc0
        · cases hc0
      obtain ⟨hlt, rfl⟩ := hblk
      have htl : (zs.take len).length = len := by rw [List.length_take]; omega
      have hsz'' : len ≤ 4611686018427387904 := by
        simp only [lits, List.length_map] at hsz'
        omega
      refine calls_of_rcs (S := fun c => c = b) (h (zs.take len) (by omega)) (fun c hc => by subst hc; exact hlt) (.d _ _ ?_)
      refine .row (ints (zs.take len)) b o cap 1 len (fun j => .int .i64 (zs.getD j 0)) (by rw [ints_len, htl]) hl rfl (fun e he => ?_) (fun d hd => ?_) (fun j d hj => ?_) (fun j d hj => ?_)
      · unfold ints at he
        rw [List.mem_map] at he
        obtain ⟨n, _, rfl⟩ := he; rfl
      · rw [flat_ints'] at hd
        unfold ints at hd
        rw [List.mem_map] at hd
        obtain ⟨n, _, rfl⟩ := hd; rfl
      · rw [flat_ints'] at hj
        have hjl : j < len := by
          have := (List.getElem?_eq_some_iff.1 hj).1
          rw [ints_len, htl] at this; exact this
        have h1 := hcell j (by omega)
        have e : (⟨b, o, none⟩ : Addr).add j = ⟨b, o + j, none⟩ := by
          simp only [Addr.add]
          split
          · rename_i h0; subst h0; rfl
          · rfl
        rw [e] at h1
        exact h1
      · rw [flat_ints'] at hj
        have hjl : j < len := by
          have := (List.getElem?_eq_some_iff.1 hj).1
          rw [ints_len, htl] at this; exact this
        have e : d = .int .i64 (zs.getD j 0) := by
          unfold ints at hj
          rw [List.getElem?_map, List.getElem?_take_of_lt hjl] at hj
          rw [List.getD_eq_getElem?_getD]
          cases hq : zs[j]? with
          | none => rw [hq] at hj; cases hj
          | some n => rw [hq] at hj; cases hj; rfl
        rw [e]; exact .int _ _
end Go.Aev.M33
end
