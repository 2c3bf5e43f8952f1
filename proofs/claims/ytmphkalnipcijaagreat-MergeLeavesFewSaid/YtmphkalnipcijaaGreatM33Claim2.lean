/- MergeLeavesFew returns true for every list of counts, and leaves its argument as it was. Conditions: none. -/
import Derived.Test.YtmphkalnipcijaaGreatA19
import Derived.Test.YtmphkalnipcijaaGreatM33Sanity
import Derived.Test.YtmphkalnipcijaaGreatA21
import Derived.SizedLaws
set_option linter.unusedVariables false
set_option linter.unusedSimpArgs false
/- M33Claim2 -/
section
namespace Go.Proofs.YtmphkalnipcijaaGreat
open Go.ChangeShapes Go.WideShapes Go.ChangeAt Go.RowKit
theorem own4 : ownKnob Tryz.prog.godebug = none := by kernel_rfl
theorem laidOut4 : laidOutB Tryz.prog = true := by kernel_rfl
set_option maxRecDepth 100000 in
theorem lifted4 (os : Os) (started : os.Started) (H : Type) (enc : TypeId × Value → H) :
    ReturnsInHanded {} Tryz.checked os 4 .any (Rows.mergeLeavesFewSpec.pre6 enc Tryz.prog Tryz.f4 Rows.mergeLeavesFewRow.domain false) (Rows.mergeLeavesFewSpec.post enc Tryz.prog Tryz.f4 false true false false) := by
  refine returnsInHanded_of_change_sized (C := Tryz.checked) own4 started (by kernel_rfl) Tryz.func4
    (ChangeSpec.witness6 (enc := enc) (C := Tryz.checked) false ⟨#[], #[.slice none 0 0], []⟩ 8 (by kernel_rfl) (by kernel_rfl) (by kernel_rfl) (by kernel_rfl)) ?_
  intro W base args ds gs before hval0 hW _ hsize _
  have hval : ∀ (j : Nat) t v, Tryz.f4.params[j]? = some t → args[j]? = some v → Value.okWide Tryz.prog W .any base t v := hval0
  have hW' := hW
  obtain ⟨p, q, hA0, hV, rfl, _, _⟩ := hW
  have hA : DataW.TrodAll enc Tryz.prog W 0 (fun _ => true) true Tryz.f4.params.toList args.toList ds p := hA0
  rw [Tryz.params4] at hA hval
  obtain ⟨v0, vs0, d0, ds0, p0, q0, hargs, rfl, rfl, h0, r0⟩ := trodAll_cons hA
  obtain ⟨rfl, rfl, rfl⟩ := trodAll_nil r0
  obtain rfl : args = #[v0] := by cases args; simp_all
  obtain ⟨rfl, rfl⟩ := trodVars_none hV
  obtain ⟨a0, len0, cap0, rfl⟩ := okWide_slice Tryz.underlying22 (hval 0 22 v0 rfl rfl)
  clear hA0 hval0
  simp only [List.append_nil] at hW'
  have hlt : ∀ x ∈ p0, x.block < W.heap.size := fun x hx => by simpa using hW'.lt x hx
  have hsz : ∀ elems spare, d0 = .slice elems spare → elems.length ≤ 4611686018427387904 := fun elems spare e => by
    subst e
    have hsize' : (DataW.weightsEach Tryz.prog (Tryz.f4.params.toList ++ Rows.mergeLeavesFewSpec.plain.varTypes Tryz.prog) ([.slice elems spare] ++ [])).all (· ≤ reachBytes) = true := hsize
    have h1 := sized_slice (j := 0) (t := 22) (e := 3) (elems := elems) (spare := spare) hsize' (by rw [Tryz.params4]; rfl) rfl Tryz.underlying22
    have h2 := reachBytes_lt
    have h3 : Tryz.prog.bytesOf 3 = 8 := by kernel_rfl
    rw [h3] at h1
    omega
  refine (Go.Aev.M33.calls_ints (f := 4) (fun a ha => Go.Aev.M33.law2_rcs Go.Aev.M33.sanity_rcs ha) h0 hsz).mono fun e W' ⟨he, hb⟩ => ?_
  subst he
  have harg0 : DataW.Trod enc Tryz.prog W' 0 (fun b => decide (b < W.heap.size)) true 22 (.slice a0 len0 cap0) d0 p0 :=
    Below.trod laidOut4 (by kernel_rfl) (of_decide_eq_true (by kernel_rfl)) h0 hb hlt
  exact ⟨_, rfl, _, _, _, [], _, [], hW', trodAll_mk1 (shut_bool Tryz.underlying4 _), trodAll_mk1 harg0, rfl, hb.frame _, fun h => by cases h⟩

/-- MergeLeavesFew: for every input the call returns true, and the argument reads as it did -/
theorem mergeLeavesFew_holds : Rows.MergeLeavesFewSaid :=
  OpenClaim.holds_of_wide 4 Tryz.f4 rfl rfl rfl rfl rfl rfl rfl ⟨rfl, rfl, rfl, rfl, rfl⟩ rfl rfl rfl rfl rfl (by kernel_rfl) Tryz.func4 (by kernel_rfl)
    (of_decide_eq_true (by kernel_rfl)) (by unfold Func.isWrapper; first | (rw [if_pos (by decide +kernel)]; kernel_rfl) | (rw [if_neg (by decide +kernel)]; exact ⟨rfl, rfl⟩))
    (fun os started H enc _ => lifted4 os started H enc)
#print axioms mergeLeavesFew_holds
end Go.Proofs.YtmphkalnipcijaaGreat
end
