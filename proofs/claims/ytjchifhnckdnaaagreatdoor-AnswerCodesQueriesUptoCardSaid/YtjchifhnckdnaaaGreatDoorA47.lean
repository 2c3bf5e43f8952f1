/- Lemmas for the statements of this seat: an abstract machine that the model follows, and contracts of functions. Conditions: none. -/
import Derived.Test.YtjchifhnckdnaaaGreatDoorA25
set_option linter.unusedVariables false
set_option linter.unusedSimpArgs false
set_option linter.unusedSectionVars false
namespace Go.Aev
variable [Glob]
def aRunTo (c:Cfg) (stop:AS→Bool):Nat→AS→Option AS
 | 0,_=>none
 | n + 1,s=>match stop s with
  | true=>some s
  | false=>match aStep c s with
   | .next s'=>aRunTo c stop n s'
   | _=>none
theorem Ends.arunTo {c:SCfg} {d:Cfg} (hc:COK d) (hP:d.P = c.P) {k:Nat} {Q:V→Rows→Prop} (stop:AS→Bool):∀ (n:Nat) {s s':AS},aRunTo d stop n s = some s'→Ends c k s' Q→Ends c k s Q
 | 0,s,s',e,_=>by cases e
 | n + 1,s,s',e,hk=>by
  simp only [aRunTo] at e
  split at e
  ·cases e; exact hk
  ·split at e
   ·rename_i s1 h1
    have ih:=Ends.arunTo hc hP stop n e hk
    intro w0 own bt f M hb hs
    have h:=aStep_sound hc (by rw [hP]; exact hs)
    rw [h1,hP] at h
    obtain ⟨M',st,hs'⟩:=h
    obtain ⟨v,rows',hq,hf⟩:=ih w0 own bt f M' hb hs'
    exact ⟨v,rows',hq,hf.of_steps st⟩
   ·cases e
theorem Ends.adone {c:SCfg} {d:Cfg} (hc:COK d) (hP:d.P = c.P) {k:Nat} {Q:V→Rows→Prop} (n:Nat) {s:AS} {v:V} {rows:Rows} (e:aRun d n s = .done v rows) (hq:Q v rows):Ends c k s Q:=by
 intro w0 own bt f M hb hs
 have h:=aRun_sound hc (n:=n) (by rw [hP]; exact hs)
 rw [e,hP] at h
 exact ⟨v,rows,hq,h⟩
def forking (s:AS):Bool:=decide (2 ≤ (forks s).length)
end Go.Aev
