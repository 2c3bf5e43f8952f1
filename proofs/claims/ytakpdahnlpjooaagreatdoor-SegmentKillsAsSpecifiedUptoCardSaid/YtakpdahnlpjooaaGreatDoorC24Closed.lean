/- Lemmas: a machine that the model follows, and contracts. Conditions: none. -/
import Derived.Test.YtakpdahnlpjooaaGreatDoorRows
import Derived.JoinedCond
import Derived.KernelRfl
set_option linter.all false
set_option maxRecDepth 1000000
set_option maxHeartbeats 0
noncomputable section
/- The closed facts of the row: each by the kernel, in a lemma of its own. -/
namespace Go.Proofs.YtakpdahnlpjooaaGreatDoor
set_option maxRecDepth 100000
theorem own3 : ownKnob Tryz.prog.godebug = none := by kernel_rfl
theorem laidOut3 : laidOutB Tryz.prog = true := by kernel_rfl

abbrev FT := Program → FuncId → Func → ChangeSpec → OpenClaim → Bool
def g1 : FT := fun P f fn s c => c.wf (OpenSpec.ofChange s)
def g2 : FT := fun P f fn s c => laidOutB P
def g3 : FT := fun P f fn s c => mapsRowed P
def g4 : FT := fun P f fn s c => fn.params.all (P.readableRec ·)
def g5 : FT := fun P f fn s c => namedTie P c.named s.vars
def g6 : FT := fun P f fn s c => (c.stops == [])
def g7 : FT := fun P f fn s c => (P.stops == [])
def g8 : FT := fun P f fn s c => (c.knobs == [])
def g9 : FT := fun P f fn s c => (P.stopKnobs == [])
def g10 : FT := fun P f fn s c => (c.inPlace == P.inPlace f)
def g11 : FT := fun P f fn s c => (c.unfollowed == P.unfollowed f)
def g12 : FT := fun P f fn s c => (c.recurses == P.recurses f)
def g13 : FT := fun P f fn s c => (c.named == P.varsNamed f)
def g14 : FT := fun P f fn s c => (c.maps == (fn.params.toList ++ s.plain.varTypes P).any (P.mapsRec ·))
def g15 : FT := fun P f fn s c => (c.ifaces == (fn.params.toList ++ s.plain.varTypes P).any (P.ifacesRec ·))
def g16 : FT := fun P f fn s c => (c.mapsOut == P.mapsAmong fn.resultTypes.toList)
def g17 : FT := fun P f fn s c => (c.loops == (fn.params.toList ++ s.plain.varTypes P).any (P.loopsFrom ·))
def g18 : FT := fun P f fn s c => (c.wideKeys == (fn.params.toList ++ s.plain.varTypes P ++ fn.resultTypes.toList).any (P.wideKeysFrom ·))
def g19 : FT := fun P f fn s c => s.vars.all (P.varReadable ·)
def g20 : FT := fun P f fn s c => fn.resultTypes.all (fun t => P.readableRec t && decide (t < P.types.size))
def g21 : FT := fun P f fn s c => (c.ifacesOut == fn.resultTypes.toList.any (P.ifacesRec ·))
def g22 : FT := fun P f fn s c => (c.loopsOut == fn.resultTypes.toList.any (P.loopsFrom ·))
def g23 : FT := fun P f fn s c => (c.plainKeys == P.plainKeys)
def g24 : FT := fun P f fn s c => c.shortTexts.isNone
def g25 : FT := fun P f fn s c => P.stopsHeard
def g26 : FT := fun P f fn s c => P.mayEnter
def g27 : FT := fun P f fn s c => (c.lifted == P.liftsFinal)
def g28 : FT := fun P f fn s c => (P.make == some c.make)
def g29 : FT := fun P f fn s c => (c.kinds == (if c.domain.isEmpty then [] else fn.params.toList.map fun t => match P.underlying t with | some (.int k) => some k | _ => none))
def g30 : FT := fun P f fn s c => (c.pinned == c.pinnedBy)
def g31 : FT := fun P f fn s c => (c.veiled == (fn.params.toList ++ s.plain.varTypes P ++ fn.resultTypes.toList).any (P.veiledRec ·))
def g32 : FT := fun P f fn s c => c.veiledFits P fn.params.toList (fn.params.toList ++ s.plain.varTypes P ++ fn.resultTypes.toList)
theorem joined_of {P : Program} {f : FuncId} {fn : Func} {s : ChangeSpec} {c : OpenClaim} (h1 : g1 P f fn s c = true) (h2 : g2 P f fn s c = true) (h3 : g3 P f fn s c = true) (h4 : g4 P f fn s c = true) (h5 : g5 P f fn s c = true) (h6 : g6 P f fn s c = true) (h7 : g7 P f fn s c = true) (h8 : g8 P f fn s c = true) (h9 : g9 P f fn s c = true) (h10 : g10 P f fn s c = true) (h11 : g11 P f fn s c = true) (h12 : g12 P f fn s c = true) (h13 : g13 P f fn s c = true) (h14 : g14 P f fn s c = true) (h15 : g15 P f fn s c = true) (h16 : g16 P f fn s c = true) (h17 : g17 P f fn s c = true) (h18 : g18 P f fn s c = true) (h19 : g19 P f fn s c = true) (h20 : g20 P f fn s c = true) (h21 : g21 P f fn s c = true) (h22 : g22 P f fn s c = true) (h23 : g23 P f fn s c = true) (h24 : g24 P f fn s c = true) (h25 : g25 P f fn s c = true) (h26 : g26 P f fn s c = true) (h27 : g27 P f fn s c = true) (h28 : g28 P f fn s c = true) (h29 : g29 P f fn s c = true) (h30 : g30 P f fn s c = true) (h31 : g31 P f fn s c = true) (h32 : g32 P f fn s c = true) : joinedFacts P f fn s c = true := by
  unfold joinedFacts
  simp only [Bool.and_eq_true]
  exact ⟨⟨⟨⟨⟨⟨⟨⟨⟨⟨⟨⟨⟨⟨⟨⟨⟨⟨⟨⟨⟨⟨⟨⟨⟨⟨⟨⟨⟨⟨⟨h1, h2⟩, h3⟩, h4⟩, h5⟩, h6⟩, h7⟩, h8⟩, h9⟩, h10⟩, h11⟩, h12⟩, h13⟩, h14⟩, h15⟩, h16⟩, h17⟩, h18⟩, h19⟩, h20⟩, h21⟩, h22⟩, h23⟩, h24⟩, h25⟩, h26⟩, h27⟩, h28⟩, h29⟩, h30⟩, h31⟩, h32⟩
/-- a fact of the row -/
abbrev At (g : FT) : Bool := g Tryz.prog 3 Tryz.f3 (Rows.OpenSpec.upto Rows.segmentKillsAsSpecifiedSpec).bare Rows.segmentKillsAsSpecifiedUptoRow
theorem k1 : At g1 = true := by kernel_rfl
theorem k2 : At g2 = true := by kernel_rfl
theorem k3 : At g3 = true := by kernel_rfl
theorem k4 : At g4 = true := by kernel_rfl
theorem k5 : At g5 = true := by kernel_rfl
theorem k6 : At g6 = true := by kernel_rfl
theorem k7 : At g7 = true := by kernel_rfl
theorem k8 : At g8 = true := by kernel_rfl
theorem k9 : At g9 = true := by kernel_rfl
theorem k10 : At g10 = true := by kernel_rfl
theorem k11 : At g11 = true := by kernel_rfl
theorem k12 : At g12 = true := by kernel_rfl
theorem k13 : At g13 = true := by kernel_rfl
theorem k14 : At g14 = true := by kernel_rfl
theorem k15 : At g15 = true := by kernel_rfl
theorem k16 : At g16 = true := by kernel_rfl
theorem k17 : At g17 = true := by kernel_rfl
theorem k18 : At g18 = true := by kernel_rfl
theorem k19 : At g19 = true := by kernel_rfl
theorem k20 : At g20 = true := by kernel_rfl
theorem k21 : At g21 = true := by kernel_rfl
theorem k22 : At g22 = true := by kernel_rfl
theorem k23 : At g23 = true := by kernel_rfl
theorem k24 : At g24 = true := by kernel_rfl
theorem k25 : At g25 = true := by kernel_rfl
theorem k26 : At g26 = true := by kernel_rfl
theorem k27 : At g27 = true := by kernel_rfl
theorem k28 : At g28 = true := by kernel_rfl
theorem k29 : At g29 = true := by kernel_rfl
theorem k30 : At g30 = true := by kernel_rfl
theorem k31 : At g31 = true := by kernel_rfl
theorem k32 : At g32 = true := by kernel_rfl
theorem closed3 : joinedFacts Tryz.pinned.checked.prog 3 Tryz.f3 (Rows.OpenSpec.upto Rows.segmentKillsAsSpecifiedSpec).bare Rows.segmentKillsAsSpecifiedUptoRow = true :=
  joined_of k1 k2 k3 k4 k5 k6 k7 k8 k9 k10 k11 k12 k13 k14 k15 k16 k17 k18 k19 k20 k21 k22 k23 k24 k25 k26 k27 k28 k29 k30 k31 k32
end Go.Proofs.YtakpdahnlpjooaaGreatDoor
end
