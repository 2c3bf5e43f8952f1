/- Lemmas for the statements of this seat: an abstract machine that the model follows, and contracts of functions. Conditions: none. -/
import Derived.Test.YtjchifhnckdnaaaGreatDoorA08
set_option linter.unusedVariables false
set_option linter.unusedSimpArgs false
set_option linter.unusedSectionVars false
namespace Go.Aev
variable [Glob]
inductive Tr (α:Type) where
 | lf
 | nd (l:Tr α) (a:α) (r:Tr α)
namespace Tr
variable {α β:Type}
noncomputable def get (t:Tr α):Nat→Option α :=
 Tr.rec (motive:=fun _=>Nat→Option α) (fun _=>none)
  (fun _ a _ gl gr n=>Nat.rec (motive:=fun _=>Option α) (some a)
   (fun m _=>Nat.rec (motive:=fun _=>Option α) (gl (Nat.div m 2)) (fun _ _=>gr (Nat.div m 2)) (Nat.mod m 2)) n) t
noncomputable def setK (v:α) (t:Tr α):Nat→(Tr α→β)→β :=
 Tr.rec (motive:=fun _=>Nat→(Tr α→β)→β) (fun _ k=>k .lf)
  (fun l a r gl gr n k=>Nat.rec (motive:=fun _=>β) (k (.nd l v r))
   (fun m _=>Nat.rec (motive:=fun _=>β) (gl (Nat.div m 2) (fun l'=>k (.nd l' a r))) (fun _ _=>gr (Nat.div m 2) (fun r'=>k (.nd l a r'))) (Nat.mod m 2)) n) t
noncomputable def path (v d:α) (n:Nat):Tr α :=
 Nat.rec (motive:=fun _=>Nat→Tr α) (fun _=>.lf)
  (fun _ ih n=>Nat.rec (motive:=fun _=>Tr α) (.nd .lf v .lf)
   (fun m _=>Nat.rec (motive:=fun _=>Tr α) (.nd (ih (Nat.div m 2)) d .lf) (fun _ _=>.nd .lf d (ih (Nat.div m 2))) (Nat.mod m 2)) n) (n + 1) n
noncomputable def insK (v d:α) (t:Tr α):Nat→(Tr α→β)→β :=
 Tr.rec (motive:=fun _=>Nat→(Tr α→β)→β) (fun n k=>k (path v d n))
  (fun l a r gl gr n k=>Nat.rec (motive:=fun _=>β) (k (.nd l v r))
   (fun m _=>Nat.rec (motive:=fun _=>β) (gl (Nat.div m 2) (fun l'=>k (.nd l' a r))) (fun _ _=>gr (Nat.div m 2) (fun r'=>k (.nd l a r'))) (Nat.mod m 2)) n) t
noncomputable def full (v:α) (n:Nat):Nat→Nat→Nat→Tr α :=
 fun f o s=>Nat.rec (motive:=fun _=>Nat→Nat→Tr α) (fun _ _=>.lf)
  (fun _ ih o s=>Bool.rec (motive:=fun _=>Tr α) .lf (.nd (ih (Nat.add o s) (Nat.mul 2 s)) v (ih (Nat.add o (Nat.mul 2 s)) (Nat.mul 2 s))) (Nat.blt o n)) f o s
end Tr
end Go.Aev
