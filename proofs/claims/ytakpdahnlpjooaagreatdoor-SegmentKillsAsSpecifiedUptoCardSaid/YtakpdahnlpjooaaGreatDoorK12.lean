/- Lemmas: a machine that the model follows, and contracts. Conditions: none. -/
import Derived.Test.YtakpdahnlpjooaaGreatDoorProg
import Derived.Test.YtakpdahnlpjooaaGreatDoorK11
set_option linter.all false
set_option maxRecDepth 1000000
set_option maxHeartbeats 0
noncomputable section
namespace Go.Aev.R29
open Go Go.Aev Go.Aev.R
instance globs:Glob:={gl:=fun g=>match g with|0=>some (.agg (consts.map fun(n:Nat)=>.int .u32 n)) | 1=>some (.agg (consts.map fun(n:Nat)=>.int .u32 n)) | _=>none,mkb:=fun t=>Nat.beq t 411}
def PP:Program:=Go.Proofs.Tryz.prog
set_option maxRecDepth 1000000 in
def Yz:(PP.funcs.toList.all fun f=>!(f.name == "runtime.NumGoroutine"))=true:=by kernel_rfl
def mixed:PP.follows .mixedOrders=true:=by kernel_rfl
def fe [PW] (X:RFn) (t:Tab) (ht:qaA PP t) (hc:J8 PP X t=true) (ha:J9 PP X t (qJ PP X)) (hf:∀ds d,X.con.fact ds d:=by exact fun _ _=>trivial):qH PP X.g X.con (Ev0 PP X t) :=
 qJt Yz mixed ht hc ha fun ds d _ _ _=>hf ds d
end Go.Aev.R29
end
