/- Lemmas: a machine that the model follows, and contracts. Conditions: none. -/
import Derived.Test.YtakpdahnlpjooaaGreatDoorRows
import GoSem.ClaimGoes
import Derived.KernelRfl
set_option linter.all false
set_option maxRecDepth 1000000
set_option maxHeartbeats 0
noncomputable section
/- No function of the program starts a goroutine. -/
namespace Go.Proofs.YtakpdahnlpjooaaGreatDoor
set_option maxRecDepth 100000
/-- no function starts a goroutine -/
theorem no_goes : (Tryz.prog.funcs.toList.any Func.goes) = false := by kernel_rfl
theorem no_goes_at (g : FuncId) : (Tryz.prog.funcs[g]?).any Func.goes = false := by
  cases h : Tryz.prog.funcs[g]? with
  | none => rfl
  | some fn =>
    have := (List.any_eq_false.1 no_goes) fn (by rw [Array.mem_toList_iff]; exact Array.mem_of_getElem? h)
    simpa using this
theorem goes_none (f : FuncId) : Tryz.prog.goes f = false := by
  unfold Program.goes
  have h1 : ((Tryz.prog.closure f).any fun g => (Tryz.prog.funcs[g]?).any Func.goes) = false := by
    simp only [no_goes_at]
    simp
  have h2 : Tryz.prog.funcs.any Func.goes = false := by
    rw [← Array.any_toList]; exact no_goes
  rw [h1, h2]; simp
theorem any_goes (o : Option FuncId) : o.any Tryz.prog.goes = false := by
  cases o with
  | none => rw [Option.any_none]
  | some f =>
    rw [Option.any_some]
    exact goes_none f
theorem goes_at (st : Start) (func : String) (h : st = .entering) : Tryz.prog.goesAt st func = false := by
  subst h
  unfold Program.goesAt Program.goesFrom
  rw [any_goes]; rfl
theorem goes_row : false = Rows.segmentKillsAsSpecifiedUptoRow.goesBy Tryz.prog := by
  show false = Tryz.prog.goesAt Rows.segmentKillsAsSpecifiedUptoRow.start Rows.segmentKillsAsSpecifiedUptoRow.func
  exact (goes_at _ _ rfl).symm
end Go.Proofs.YtakpdahnlpjooaaGreatDoor
end
