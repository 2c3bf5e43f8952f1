/- Lemmas for the statements of this seat: an abstract machine that the model follows, and contracts of functions. Conditions: none. -/
import Derived.Test.YtmphkalnipcijaaGreatA16
import Derived.Test.YtmphkalnipcijaaGreatAevFastS6
set_option linter.unusedVariables false
set_option linter.unusedSimpArgs false
/- M33Sanity -/
section
namespace Go.Aev.M33
set_option maxRecDepth 1000000
/-- everything is run -/
noncomputable def base : Base := { P := PP, T := tyOf PP, F := fun g => PP.funcs[g]?, rc := rcBy PP, po := fun _ => false, fuel := 100000 }
theorem base_ok : BOK base :=
  ⟨fun _ _ h => h, fun g gf h => ⟨h, name_by names h⟩, fun g h => (by
    have h : rcBy PP g = true := h
    unfold rcBy at h
    split at h
    · rename_i gf hg; exact ⟨gf, hg, h, name_by names hg⟩
    · cases h), mixed⟩
theorem sanity_run : fclosed (base.fcfg 8) 100000 7 = some (.d (.bool true)) := by kernel_rfl
/-- the examples of the document hold -/
theorem sanity_rcs : RCs PP 7 [] [] (B true) := by
  intro w0 own m S w vs inv hro hv
  have hvs : vs = #[] := Array.eq_empty_of_size_eq_zero hv.1
  rw [hvs]
  have h := calls_of_fclosed (fcfg_ok base_ok 8) sanity_run w
  rw [fcfg_P] at h
  exact h.mono fun e w' ⟨he, hb⟩ => ⟨_, he, S, fun c h => h, fun c h => .inl h, fun m2 => .d _ _ (.bool true), hb.block, hb.size, hb.os, hb.tape, hb.output⟩
end Go.Aev.M33
end
