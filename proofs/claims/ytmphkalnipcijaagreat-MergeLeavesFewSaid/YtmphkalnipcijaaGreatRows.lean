/-
  No cell of these rows narrows 'for every input' (looked for: loops, veiled, ifaces, maps, wideKeys, modest, calm, conditions, laid).
  DERIVED. THE GIVEN ROWS OF THIS SEAT. 3 by the template 'for every input the law returns true; each argument reads behind the call as it read before'; 0 by the template 'total and deterministic' (their statements: YtmphkalnipcijaaGreatTotals.lean).
  GIVEN WITH THE SEED: the statements are not yours to turn. If you find one false, say at which input.
  Laid BY PROGRAM, IN A SANDBOX (cutbox-rows.mjs): the forced cells as the released guide's own fill.sh prints them over the translation 8f541b2533c7bb30… (all of the seat's roots in one cut). By AI agents, Wed Nov 11 2026. No macro, syntax, notation, axiom, sorry.
-/
import Derived.Test.YtmphkalnipcijaaGreatChecked
import GoSem.Claim
import GoSem.ClaimJoined
import GoSem.ClaimMapViews
import Derived.JoinedTies
import Derived.KernelRfl
namespace Go.Proofs.YtmphkalnipcijaaGreat
/- THE CELL 'sum', in the pinned program and in every row, IS THE sha256 OF THE DUMP (.gsa) THAT YtmphkalnipcijaaGreatProg.lean LOADS. Nothing in Lean hashes anything: it is a label: what it is worth is what the hold of that sum in a sandbox is worth. -/
noncomputable def Tryz.pinned : Pinned := { name := "ytmphkalnipcijaagreat", sum := "8f541b2533c7bb3094618bb76b2f46b042f71eeeb56245053452632b7a914782", checked := Tryz.checked }
namespace Rows
def none {H : Type} : Left H := { results := [], args := [] }

/-- 'antiquarylaw33.MergePicksAsSpecified': WHATEVER THE INPUT: true; the input reads as it did. -/
def mergePicksAsSpecifiedSpec : ChangeSpec := { name := "mergePicksAsSpecified", fn := fun _ => fun
  | [d] => { results := [.lit (.bool true)], args := [d] }
  | _ => none }
def mergePicksAsSpecifiedRow : OpenClaim := { program := "ytmphkalnipcijaagreat", sum := "8f541b2533c7bb3094618bb76b2f46b042f71eeeb56245053452632b7a914782", func := "antiquary/antiquarylaw33.MergePicksAsSpecified", spec := "mergePicksAsSpecified", unfollowed := true, recurses := true, plainKeys := false, apart := false }
def MergePicksAsSpecifiedSaid : Prop := mergePicksAsSpecifiedRow.holds Tryz.pinned (OpenSpec.ofChange mergePicksAsSpecifiedSpec)

/-- ITS FALSE NEIGHBOUR: 'it returns false'. Refute it at one input. -/
def mergePicksAsSpecifiedWrong : ChangeSpec := { name := "mergePicksAsSpecified", fn := fun _ => fun
  | [d] => { results := [.lit (.bool false)], args := [d] }
  | _ => none }
def MergePicksAsSpecifiedWrongFalsely : Prop := mergePicksAsSpecifiedRow.holds Tryz.pinned (OpenSpec.ofChange mergePicksAsSpecifiedWrong)

/-- 'antiquarylaw33.MergeLeavesFew': WHATEVER THE INPUT: true; the input reads as it did. -/
def mergeLeavesFewSpec : ChangeSpec := { name := "mergeLeavesFew", fn := fun _ => fun
  | [d] => { results := [.lit (.bool true)], args := [d] }
  | _ => none }
def mergeLeavesFewRow : OpenClaim := { program := "ytmphkalnipcijaagreat", sum := "8f541b2533c7bb3094618bb76b2f46b042f71eeeb56245053452632b7a914782", func := "antiquary/antiquarylaw33.MergeLeavesFew", spec := "mergeLeavesFew", unfollowed := true, recurses := true, plainKeys := false, apart := false }
def MergeLeavesFewSaid : Prop := mergeLeavesFewRow.holds Tryz.pinned (OpenSpec.ofChange mergeLeavesFewSpec)

/-- ITS FALSE NEIGHBOUR: 'it returns false'. Refute it at one input. -/
def mergeLeavesFewWrong : ChangeSpec := { name := "mergeLeavesFew", fn := fun _ => fun
  | [d] => { results := [.lit (.bool false)], args := [d] }
  | _ => none }
def MergeLeavesFewWrongFalsely : Prop := mergeLeavesFewRow.holds Tryz.pinned (OpenSpec.ofChange mergeLeavesFewWrong)

/-- 'antiquarylaw33.MergeMovesLittle': WHATEVER THE INPUT: true; the input reads as it did. -/
def mergeMovesLittleSpec : ChangeSpec := { name := "mergeMovesLittle", fn := fun _ => fun
  | [d] => { results := [.lit (.bool true)], args := [d] }
  | _ => none }
def mergeMovesLittleRow : OpenClaim := { program := "ytmphkalnipcijaagreat", sum := "8f541b2533c7bb3094618bb76b2f46b042f71eeeb56245053452632b7a914782", func := "antiquary/antiquarylaw33.MergeMovesLittle", spec := "mergeMovesLittle", unfollowed := true, recurses := true, plainKeys := false, apart := false }
def MergeMovesLittleSaid : Prop := mergeMovesLittleRow.holds Tryz.pinned (OpenSpec.ofChange mergeMovesLittleSpec)

/-- ITS FALSE NEIGHBOUR: 'it returns false'. Refute it at one input. -/
def mergeMovesLittleWrong : ChangeSpec := { name := "mergeMovesLittle", fn := fun _ => fun
  | [d] => { results := [.lit (.bool false)], args := [d] }
  | _ => none }
def MergeMovesLittleWrongFalsely : Prop := mergeMovesLittleRow.holds Tryz.pinned (OpenSpec.ofChange mergeMovesLittleWrong)

/- THE SECOND FORM. 'bulk': how many values and letters a reading holds, each counted each time it is reached (what is shared counts as often as it is met; a slice's spare places count too). A statement '..UptoSaid' is the law's where the arguments, and the package variables that the reading takes, are together of bulk at most 1048576: NARROWER than '..Said'. Prove '..Said' where nothing that the law and all that it calls make is longer than what came in: it says more and counts as full. Else prove '..UptoSaid'. A law counts once. -/
mutual
def uptoBulk {H : Type} : DataW H → Nat
  | .lit (.string bytes) => bytes.length + 1
  | .lit _ => 1
  | .nil => 1
  | .ptr d => uptoBulk d + 1
  | .slice elems spare => uptoBulkAll elems + uptoBulkAll spare + 1
  | .agg parts => uptoBulkAll parts + 1
  | .iface _ d => uptoBulk d + 1
  | .map entries => uptoBulkEntries entries + 1
  | .held _ => 1
def uptoBulkAll {H : Type} : List (DataW H) → Nat
  | [] => 0
  | d :: r => uptoBulk d + uptoBulkAll r
def uptoBulkEntries {H : Type} : List (Lit × DataW H) → Nat
  | [] => 0
  | x :: r => uptoBulkEntry x + uptoBulkEntries r
def uptoBulkEntry {H : Type} : Lit × DataW H → Nat
  | (.string bytes, d) => bytes.length + uptoBulk d + 1
  | (_, d) => uptoBulk d + 1
 end
def uptoSmall : (H : Type) → List (DataW H) → Bool := fun _ ds => decide (uptoBulkAll ds ≤ 1048576)
def OpenSpec.upto (s : _root_.Go.ChangeSpec) : _root_.Go.OpenSpec := { _root_.Go.OpenSpec.ofChange s with cond := some uptoSmall }

/-- 'antiquarylaw33.MergePicksAsSpecified', WHERE WHAT IT READS IS OF BULK AT MOST 1048576: true; the input reads as it did. -/
def mergePicksAsSpecifiedUptoRow : OpenClaim := { program := "ytmphkalnipcijaagreat", sum := "8f541b2533c7bb3094618bb76b2f46b042f71eeeb56245053452632b7a914782", func := "antiquary/antiquarylaw33.MergePicksAsSpecified", spec := "mergePicksAsSpecified", unfollowed := true, recurses := true, plainKeys := false, apart := false, narrowed := true }
def MergePicksAsSpecifiedUptoSaid : Prop := mergePicksAsSpecifiedUptoRow.holds Tryz.pinned (OpenSpec.upto mergePicksAsSpecifiedSpec)

/-- 'antiquarylaw33.MergeLeavesFew', WHERE WHAT IT READS IS OF BULK AT MOST 1048576: true; the input reads as it did. -/
def mergeLeavesFewUptoRow : OpenClaim := { program := "ytmphkalnipcijaagreat", sum := "8f541b2533c7bb3094618bb76b2f46b042f71eeeb56245053452632b7a914782", func := "antiquary/antiquarylaw33.MergeLeavesFew", spec := "mergeLeavesFew", unfollowed := true, recurses := true, plainKeys := false, apart := false, narrowed := true }
def MergeLeavesFewUptoSaid : Prop := mergeLeavesFewUptoRow.holds Tryz.pinned (OpenSpec.upto mergeLeavesFewSpec)

/-- 'antiquarylaw33.MergeMovesLittle', WHERE WHAT IT READS IS OF BULK AT MOST 1048576: true; the input reads as it did. -/
def mergeMovesLittleUptoRow : OpenClaim := { program := "ytmphkalnipcijaagreat", sum := "8f541b2533c7bb3094618bb76b2f46b042f71eeeb56245053452632b7a914782", func := "antiquary/antiquarylaw33.MergeMovesLittle", spec := "mergeMovesLittle", unfollowed := true, recurses := true, plainKeys := false, apart := false, narrowed := true }
def MergeMovesLittleUptoSaid : Prop := mergeMovesLittleUptoRow.holds Tryz.pinned (OpenSpec.upto mergeMovesLittleSpec)

end Rows
end Go.Proofs.YtmphkalnipcijaaGreat
