/- Lemmas for the statements of this seat: an abstract machine that the model follows, and contracts of functions. Conditions: none. -/
import Derived.Test.YtjchifhnckdnaaaGreatDoorM44SnD
import Derived.Test.YtjchifhnckdnaaaGreatDoorA47
set_option linter.unusedVariables false
set_option linter.unusedSimpArgs false
set_option linter.unusedSectionVars false
namespace Go.Aev.M44
set_option maxRecDepth 1000000
open Go Go.Aev
noncomputable def dB:Cfg:=(bs []).fcfg 8
theorem dB_ok:COK dB:=fcfg_ok (bs_ok tnil) 8
theorem tfork {t:List Ent} {e:Ent} (h:RCs PP e.g e.args e.rows e.v) (ht:TOks t):TOks (e :: t):=by
 intro x hx
 rcases List.mem_cons.1 hx with rfl | hx
 ·exact h
 ·exact ht x hx
def oV48:Out→V
 | .done v _=>v
 | _=>.nil
def oR48:Out→Aev.Rows
 | .done _ r=>r
 | _=>[]
noncomputable def F48:AS:=(aRunTo dB forking 2000 (start c0 E48.g E48.args E48.rows)).getD (start c0 E48.g E48.args E48.rows)
noncomputable def F48j (j:Nat):AS:=(forkAt F48 j).getD F48
noncomputable def O48 (j:Nat):Out:=aRun dB 2000 (F48j j)
theorem e48:RCs PP E48.g E48.args E48.rows E48.v:=by
 refine rcs_of c0_ok (by kernel_rfl) ?_
 refine Ends.arunTo (d:=dB) dB_ok rfl forking 2000 (s':=F48) (by kernel_rfl) ?_
 have hf:forks F48 = [0,1]:=by kernel_rfl
 refine Ends.next (by rw [hf]; simp) fun j hj=>?_
 rw [hf] at hj
 have h0:forkAt F48 0 = some (F48j 0):=by kernel_rfl
 have h1:forkAt F48 1 = some (F48j 1):=by kernel_rfl
 have k0:aRun dB 2000 (F48j 0) = .done (oV48 (O48 0)) (oR48 (O48 0)):=by kernel_rfl
 have k1:aRun dB 2000 (F48j 1) = .done (oV48 (O48 1)) (oR48 (O48 1)):=by kernel_rfl
 have c0:convV (liveAt (oR48 (O48 0))) (oV48 (O48 0)) = some E48.v:=by kernel_rfl
 have c1:convV (liveAt (oR48 (O48 1))) (oV48 (O48 1)) = some E48.v:=by kernel_rfl
 have hj':j = 0 ∨ j = 1:=by simpa using hj
 rcases hj' with rfl | rfl
 ·exact ⟨_,h0,Ends.adone (d:=dB) dB_ok rfl 2000 k0 c0⟩
 ·exact ⟨_,h1,Ends.adone (d:=dB) dB_ok rfl 2000 k1 c1⟩
end Go.Aev.M44
