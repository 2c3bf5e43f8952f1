/- AnswerCodesQueries returns true for every query and bytes that hold together at most 1048576 values and letters, and leaves its arguments as they were. Conditions: that bound; the package's table of constants is as the program's text lays it (the card ties it). -/
import Derived.Test.YtjchifhnckdnaaaGreatDoorM44Join
import Derived.Test.YtjchifhnckdnaaaGreatDoorM44Sn
import Derived.Test.YtjchifhnckdnaaaGreatDoorM44Closed
import Derived.Test.YtjchifhnckdnaaaGreatDoorM44Goes
import Derived.Test.YtjchifhnckdnaaaGreatDoorCards
import Derived.Test.YtjchifhnckdnaaaGreatDoorTie
import Derived.ProofKit
import Derived.OpenShut
import Derived.JoinedCond
import Derived.Deep.DeepHandedRow
import Derived.Lib.LaidTab
set_option linter.unusedVariables false
set_option linter.unusedSimpArgs false
set_option linter.unusedSectionVars false
namespace Go.Proofs.YtjchifhnckdnaaaGreatDoor
set_option maxRecDepth 100000
open Go.ChangeShapes Go.WideShapes Go.ChangeAt Go.RowKit
def cInts : List Int := Go.Aev.M44.consts.map fun (n : Nat) => (n : Int)
noncomputable def tTab : TypeId := ((Tryz.prog.globals[0]?).map (·.type)).getD 0
theorem gTab : Tryz.prog.globalNamed "antiquary/hash.constants" = some 0 := by kernel_rfl
theorem gTabType : (Tryz.prog.globals[0]?).map (·.type) = some tTab := by kernel_rfl
theorem uTab : Tryz.prog.underlying tTab = some (.array 64 274) := by kernel_rfl
theorem u274 : Tryz.prog.underlying 274 = some (.int .u32) := by kernel_rfl
theorem ck274 : Tryz.prog.cellsOf 274 = 1 := by kernel_rfl
theorem ckTab : Tryz.prog.cellsOf tTab = 64 := by kernel_rfl
theorem laidEq : (Rows.laid_antiquary_hash_constants : DataW Unit) = Lib.tabData .u32 cInts := by kernel_rfl
theorem table {W : World} (h : laidMetH Tryz.prog Rows.answerCodesQueriesUptoRow.laid W) : Lib.TabIs Tryz.prog W "antiquary/hash.constants" .u32 cInts := by
  have h' : laidMet Tryz.prog [("antiquary/hash.constants", Rows.laid_antiquary_hash_constants)] W := h
  rw [laidEq] at h'
  exact Lib.tabIs_of_head (rest := []) gTab gTabType uTab u274 ck274 ckTab h'
theorem glb {W : World} (h : laidMetH Tryz.prog Rows.answerCodesQueriesUptoRow.laid W) : Go.Aev.Glb (Go.Aev.M44.SW W) W :=
  Go.Aev.M44.glb_of fun j n hj => by
    have hl : j < cInts.length := by
      have := (List.getElem?_eq_some_iff.1 hj).1
      simpa [cInts] using this
    have e : cInts.getD j 0 = (n : Int) := by
      unfold cInts
      rw [List.getD_eq_getElem?_getD, List.getElem?_map, hj]; rfl
    have := (table h).cell gTab j hl
    rw [e] at this
    exact this

def bulk (H : Type) : Go.Aev.M44.Bulk H :=
  { f := Rows.uptoBulk, fs := Rows.uptoBulkAll, str := fun b => by simp [Rows.uptoBulk], agg := fun l => by simp [Rows.uptoBulk], slice := fun e s => by simp [Rows.uptoBulk],
    nil := by simp [Rows.uptoBulkAll], cons := fun d r => by simp [Rows.uptoBulkAll] }

/-- WHAT THE CALL GIVES -/
theorem contract (H : Type) (enc : TypeId × Value → H) (W : World) (base : Nat) (args : Array Value) (ds gs : List (DataW H)) (before : List MemPlace)
    (hval0 : ∀ (j : Nat) t v, Tryz.f3.params[j]? = some t → args[j]? = some v → Value.okWide Tryz.prog W .any base t v)
    (hW : DataW.Whole enc Tryz.prog Tryz.f3.params.toList Rows.answerCodesQueriesSpec.vars false W args.toList ds gs before) (hk : Rows.uptoSmall H (ds ++ gs) = true) (hL : laidMetH Tryz.prog Rows.answerCodesQueriesUptoRow.laid W) :
    Calls Tryz.prog 3 args W fun e W' => ∃ v, e = .returned v ∧ Rows.answerCodesQueriesSpec.post enc Tryz.prog Tryz.f3 false true false false W args v W' := by
  have hval : ∀ (j : Nat) t v, Tryz.f3.params[j]? = some t → args[j]? = some v → Value.okWide Tryz.prog W .any base t v := hval0
  have hW' := hW
  obtain ⟨p, q, hA0, hV, rfl, _, _⟩ := hW
  have hA : DataW.TrodAll enc Tryz.prog W 0 (fun _ => true) true Tryz.f3.params.toList args.toList ds p := hA0
  rw [Tryz.params3] at hA hval
  obtain ⟨v0, vs0, d0, ds0, p0, q0, hargs, rfl, rfl, h0, r0⟩ := trodAll_cons hA
  obtain ⟨v1, vs1, d1, ds1, p1, q1, rfl, rfl, rfl, h1, r1⟩ := trodAll_cons r0
  obtain ⟨rfl, rfl, rfl⟩ := trodAll_nil r1
  obtain rfl : args = #[v0, v1] := by cases args; simp_all
  obtain ⟨rfl, rfl⟩ := trodVars_none hV
  obtain ⟨a1, len1, cap1, hv1⟩ := okWide_slice Tryz.underlying30 (hval 1 30 v1 rfl rfl)
  clear hA0 hval0
  simp only [List.append_nil] at hW' hk
  have hlt : ∀ x ∈ p0 ++ p1, x.block < W.heap.size := fun x hx => by simpa using hW'.lt x hx
  have hb : Rows.uptoBulk d0 ≤ 1048576 := by
    have h : Rows.uptoBulkAll [d0, d1] ≤ 1048576 := of_decide_eq_true hk
    simp only [Rows.uptoBulkAll] at h
    omega
  refine (Go.Aev.M44.law_calls Go.Aev.M44.san_ok (bulk H) (glb hL) hv1 h0 h1 hb).mono fun e W' ⟨he, hbel⟩ => ?_
  subst he
  have harg0 : DataW.Trod enc Tryz.prog W' 0 (fun b => decide (b < W.heap.size)) true 29 v0 d0 p0 :=
    Below.trod laidOut3 (by kernel_rfl) (of_decide_eq_true (by kernel_rfl)) h0 hbel (fun x hx => hlt x (List.mem_append.2 (.inl hx)))
  have harg1 : DataW.Trod enc Tryz.prog W' 0 (fun b => decide (b < W.heap.size)) true 30 v1 d1 p1 :=
    Below.trod laidOut3 (by kernel_rfl) (of_decide_eq_true (by kernel_rfl)) h1 hbel (fun x hx => hlt x (List.mem_append.2 (.inr hx)))
  exact ⟨_, rfl, _, _, _, [], _, [], hW', trodAll_mk1 (shut_bool Tryz.underlying4 _), trodAll_mk2 harg0 harg1, rfl, hbel.frame _, fun h => by cases h⟩

/-- an input that fits -/
def wArgs : Array Value := #[.agg #[.slice none 0 0, .int .i64 0, .int .i64 0, .int .i64 0, .string .empty, .int .i64 0, .int .i64 0, .string .empty, .slice none 0 0, .int .i64 0, .int .i64 0, .int .i64 0], .slice none 0 0]
abbrev z0 {H : Type} : DataW H := .lit (.int .i64 0)
abbrev s0 {H : Type} : DataW H := .lit (.string [])
def wData {H : Type} : List (DataW H) := [.agg [.nil, z0, z0, .agg [z0, s0, z0, z0, s0, .nil], .agg [z0, z0], z0], .nil]
noncomputable def laidWorld (os : Os) : World :=
  { World.holding Tryz.prog os ⟨#[], #[], []⟩ with heap := (World.holding Tryz.prog os ⟨#[], #[], []⟩).heap.modify 0 fun
      | .cells _ t frozen => .cells (cInts.map fun n => Value.int .u32 n).toArray t frozen
      | o => o }
theorem laid_met (os : Os) : laidMet Tryz.prog Rows.answerCodesQueriesUptoRow.laid ((laidWorld os).forCall (fun _ _ => 0) ⟨#[], wArgs, []⟩).memory :=
  laidMet_of_run' 8 (by kernel_rfl) (by kernel_rfl)
theorem reads (os : Os) {H : Type} (enc : TypeId × Value → H) : ∃ places, DataW.whole enc Tryz.prog ((laidWorld os).forCall (fun _ _ => 0) ⟨#[], wArgs, []⟩).memory Tryz.f3.params.toList Rows.answerCodesQueriesSpec.vars false wArgs.toList 8 = some (wData, [], places) :=
  ⟨[], by kernel_rfl⟩

set_option maxRecDepth 100000 in
theorem liftedUpto (os : Os) (started : os.Started) (H : Type) (enc : TypeId × Value → H) (F : Stop.Interp) :
    ReturnsInHanded {} Tryz.checked os 3 .any ((Rows.OpenSpec.upto Rows.answerCodesQueriesSpec).preRow enc Tryz.prog Tryz.f3 Rows.answerCodesQueriesUptoRow.domain false Rows.answerCodesQueriesUptoRow.laid) (((Rows.OpenSpec.upto Rows.answerCodesQueriesSpec).at F).post enc Tryz.prog Tryz.f3 false true false false) := by
  obtain ⟨places, hx⟩ := reads os enc
  refine returnsInHanded_of_row (C := Tryz.checked) (s := Rows.OpenSpec.upto Rows.answerCodesQueriesSpec) own3 started (by kernel_rfl) Tryz.func3
    (witness_row_at (enc := enc) (C := Tryz.checked) false (laidWorld os) wArgs rfl (by kernel_rfl) (by kernel_rfl) (by kernel_rfl)
      (OpenSpec.preRow_of_cond 8 hx (by kernel_rfl) (fun k hk => by cases hk; kernel_rfl) (by kernel_rfl) (laid_met os))) ?_
  intro W base args ds gs before hval hW _ hcond _ hL _ _
  exact contract H enc W base args ds gs before hval hW (hcond _ rfl) hL

theorem saidUpto : Rows.AnswerCodesQueriesUptoSaid :=
  OpenClaim.holds_of_cond 3 Tryz.f3 rfl rfl rfl rfl rfl rfl rfl ⟨rfl, rfl, rfl, rfl, rfl⟩ rfl rfl rfl rfl rfl (by kernel_rfl) Tryz.func3 closed3
    (of_decide_eq_true (by kernel_rfl)) (by unfold Func.isWrapper; first | (rw [if_pos (by decide +kernel)]; kernel_rfl) | (rw [if_neg (by decide +kernel)]; exact ⟨rfl, rfl⟩))
    (fun os started H enc _ F => by rw [OpenClaim.pre_eq_preRow]; exact liftedUpto os started H enc F)

theorem plain3 (f : FuncId) (fn : Func) (hf : Tryz.pinned.checked.prog.funcNamed "antiquary/antiquarylaw39.AnswerCodesQueries" = some f) (hfn : Tryz.pinned.checked.prog.funcs[f]? = some fn) :
    true = Tryz.pinned.checked.prog.looks [] ∧ ∀ (j : Nat) t, fn.params[j]? = some t → Tryz.pinned.checked.prog.wantsStandIn t = false := by
  obtain rfl : f = 3 := Option.some.inj ((show Tryz.prog.funcNamed "antiquary/antiquarylaw39.AnswerCodesQueries" = some 3 by kernel_rfl).symm.trans hf) |>.symm
  obtain rfl : fn = Tryz.f3 := (Option.some.inj (Tryz.func3.symm.trans hfn)).symm
  refine ⟨by kernel_rfl, fun j t ht => ?_⟩
  rw [Tryz.params3] at ht
  have h29 : Tryz.prog.wantsStandIn 29 = false := by kernel_rfl
  have h30 : Tryz.prog.wantsStandIn 30 = false := by kernel_rfl
  have hm := Array.mem_of_getElem? ht
  have : t = 29 ∨ t = 30 := by simpa using hm
  rcases this with rfl | rfl
  · exact h29
  · exact h30

/-- AnswerCodesQueries: for every input within the bound the call returns true, and the arguments read as they did; the table that it reads is tied to the program's text -/
theorem answerCodesQueriesUpto_card : Rows.AnswerCodesQueriesUptoCardSaid :=
  Claim7.holds_tied_plain_at .later [] _ _ _ _ saidUpto (fun _ h => by cases h) (by kernel_rfl) (fun _ h => by cases h) answerCodesQueriesUpto_row_tie rfl ⟨rfl, rfl⟩ (by kernel_rfl) rfl plain3 goes_row
#print axioms answerCodesQueriesUpto_card
end Go.Proofs.YtjchifhnckdnaaaGreatDoor
