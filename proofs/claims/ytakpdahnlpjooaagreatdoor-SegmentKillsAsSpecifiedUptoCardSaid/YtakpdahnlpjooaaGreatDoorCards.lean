/-
  DERIVED. GIVEN WITH THE SEED: THE CARDS: each row of YtakpdahnlpjooaaGreatDoorRows.lean that lists a variable, with what it lists TIED to the program's text (the seventh form; the later family's looks); each row that meets fmt, with fmt's text TOLD by the authors' own Lean function (tested against real Go, not proved from fmt's source: count such statements apart). THE CARD IS WHAT COUNTS. Prove the row's statement (the work); the ties are given (YtakpdahnlpjooaaGreatDoorTie.lean); close each card by the builder's one call (the guide's Derived/Test/ToyasCard.lean, 'card_holds'). Laid BY PROGRAM, IN A SANDBOX (cutbox-door.mjs). By AI agents, Wed Nov 11 2026. No macro, syntax, notation, axiom, sorry.
-/
import Derived.Test.YtakpdahnlpjooaaGreatDoorRows
import GoSem.ClaimSeven
namespace Go.Proofs.YtakpdahnlpjooaaGreatDoor
namespace Rows

/-- THE TIED CARD OF 'antiquarylaw29.SegmentKillsAsSpecified'. -/
def segmentKillsAsSpecifiedCard : Claim7 := { stood := { row := segmentKillsAsSpecifiedRow, standIns := [], harness := (true, "bb44c3f6b8c04b52017e5b997a2998fccc3b2030d09647f62b3c15ce7552ced2"), looks := true }, kinds := [], alts := [], laidByText := true, laidKinds := [.data, .data], laidTests := true, laidLooks := .later }
def SegmentKillsAsSpecifiedCardSaid : Prop := Claim7.holds Tryz.pinned (.plain (OpenSpec.ofChange segmentKillsAsSpecifiedSpec)) segmentKillsAsSpecifiedCard

/-- THE TIED CARD OF 'antiquarylaw29.SegmentHistoryStays'. -/
def segmentHistoryStaysCard : Claim7 := { stood := { row := segmentHistoryStaysRow, standIns := [], harness := (true, "bb44c3f6b8c04b52017e5b997a2998fccc3b2030d09647f62b3c15ce7552ced2"), looks := true }, kinds := [], alts := [], laidByText := true, laidKinds := [.data, .data], laidTests := true, laidLooks := .later }
def SegmentHistoryStaysCardSaid : Prop := Claim7.holds Tryz.pinned (.plain (OpenSpec.ofChange segmentHistoryStaysSpec)) segmentHistoryStaysCard

/-- THE TIED CARD OF 'antiquarylaw29.SegmentLifeIsProven'. -/
def segmentLifeIsProvenCard : Claim7 := { stood := { row := segmentLifeIsProvenRow, standIns := [], harness := (true, "bb44c3f6b8c04b52017e5b997a2998fccc3b2030d09647f62b3c15ce7552ced2"), looks := true }, kinds := [], alts := [], laidByText := true, laidKinds := [.data, .data], laidTests := true, laidLooks := .later }
def SegmentLifeIsProvenCardSaid : Prop := Claim7.holds Tryz.pinned (.plain (OpenSpec.ofChange segmentLifeIsProvenSpec)) segmentLifeIsProvenCard

/-- THE SECOND FORM's CARD OF 'antiquarylaw29.SegmentKillsAsSpecified'. -/
def segmentKillsAsSpecifiedUptoCard : Claim7 := { stood := { row := segmentKillsAsSpecifiedUptoRow, standIns := [], harness := (true, "bb44c3f6b8c04b52017e5b997a2998fccc3b2030d09647f62b3c15ce7552ced2"), looks := true }, kinds := [], alts := [], laidByText := true, laidKinds := [.data, .data], laidTests := true, laidLooks := .later }
def SegmentKillsAsSpecifiedUptoCardSaid : Prop := Claim7.holds Tryz.pinned (.plain (OpenSpec.upto segmentKillsAsSpecifiedSpec)) segmentKillsAsSpecifiedUptoCard

/-- THE SECOND FORM's CARD OF 'antiquarylaw29.SegmentHistoryStays'. -/
def segmentHistoryStaysUptoCard : Claim7 := { stood := { row := segmentHistoryStaysUptoRow, standIns := [], harness := (true, "bb44c3f6b8c04b52017e5b997a2998fccc3b2030d09647f62b3c15ce7552ced2"), looks := true }, kinds := [], alts := [], laidByText := true, laidKinds := [.data, .data], laidTests := true, laidLooks := .later }
def SegmentHistoryStaysUptoCardSaid : Prop := Claim7.holds Tryz.pinned (.plain (OpenSpec.upto segmentHistoryStaysSpec)) segmentHistoryStaysUptoCard

/-- THE SECOND FORM's CARD OF 'antiquarylaw29.SegmentLifeIsProven'. -/
def segmentLifeIsProvenUptoCard : Claim7 := { stood := { row := segmentLifeIsProvenUptoRow, standIns := [], harness := (true, "bb44c3f6b8c04b52017e5b997a2998fccc3b2030d09647f62b3c15ce7552ced2"), looks := true }, kinds := [], alts := [], laidByText := true, laidKinds := [.data, .data], laidTests := true, laidLooks := .later }
def SegmentLifeIsProvenUptoCardSaid : Prop := Claim7.holds Tryz.pinned (.plain (OpenSpec.upto segmentLifeIsProvenSpec)) segmentLifeIsProvenUptoCard
end Rows
end Go.Proofs.YtakpdahnlpjooaaGreatDoor
