/- Lemmas for the statements of this seat: an abstract machine that the model follows, and contracts of functions. Conditions: none. -/
import Derived.Test.YtjchifhnckdnaaaGreatDoorM44Rq
import Derived.Test.YtjchifhnckdnaaaGreatDoorA20
set_option linter.unusedVariables false
set_option linter.unusedSimpArgs false
set_option linter.unusedSectionVars false
section
namespace Go.Aev.M44
set_option maxRecDepth 1000000
open Go Go.Aev
mutual
def ptC:Pr→List Pr
 | .mk o nm n m s l=>(ptG [.mk o nm n m s l] l).take 1000
def ptG (out:List Pr):List Pr→List Pr
 | []=>out
 | p :: r=>if out.length < 1000 then ptG (out ++ ptC p) r else out
end
theorem ptC_len (p:Pr):(ptC p).length ≤ 1000:=by
 cases p; simp only [ptC]; rw [List.length_take]; omega
def elP (l:List Pr):Nat→D:=fun i=>prC (l.getD i zeroP)
theorem prDs_len (l:List Pr):(prDs l).length = l.length:=by induction l with | nil=>rfl | cons x r ih=>simp [prDs,ih]
theorem prDs_get {l:List Pr} {i:Nat} (h:i < l.length):(prDs l)[i]? = some (elP l i):=by
 induction l generalizing i with
 | nil=>simp at h
 | cons x r ih =>
  cases i with
  | zero=>simp [prDs,elP,prC_eq]
  | succ i =>
   simp only [prDs,List.getElem?_cons_succ]
   rw [ih (by simpa using h)]
   simp [elP]
def prIs (x:D) (p:Pr):Prop:=x = prC p
def ptIs (p:Pr) (r:List Pr):Prop:=ptC p = r
def tabP (p:Pr) (r:List Pr) (g:FuncId) (args:List V) (rows:Aev.Rows):Option (List Prop × V) :=
 match g,args,rows with
 | 33,[.d x],[]=>some ([prIs x p,ptIs p r],.d (.list (prDs r)))
 | _,_,_=>none
noncomputable def cPt (p:Pr) (r:List Pr):SCfg:=mk (fun _=>true) (tabP p r)
def PtOK (p:Pr):Prop:=RCs PP 33 [.d (prC p)] [] (.d (.list (prDs (ptC p))))
theorem tabP_ok {p:Pr} (hp:PtOK p) {r:List Pr}:TableOK (cPt p r):=by
 intro g args rows ps v h hps
 change tabP p r g args rows = _ at h
 unfold tabP at h
 split at h
 ·cases h
  obtain ⟨h1,h2,_⟩:=hps
  unfold prIs at h1; unfold ptIs at h2
  subst h1; subst h2
  exact hp
 ·cases h
theorem cPt_ok {p:Pr} (hp:PtOK p) (r:List Pr):COK (cPt p r).cfg:=mk_ok (tabP_ok hp)
end Go.Aev.M44
end
section
set_option maxRecDepth 1000000
set_option linter.unusedVariables false
namespace Go.Aev.M44
open Go Go.Aev
noncomputable def td33:List AItem:=(nextOf (sTo c0 (hints []) anyLoop 300 (start c0 33 [.d (prC zeroP)] []))).fr.todo
noncomputable def H33 (o n m:Int) (nm u:Bs) (subs:List Pr) (k:Int) (es:List D) (ex:Bool):AS:=hd 33 td33 33 [(1,.pt 0 0 0 0),(3,.sl 1 6 0 es.length es.length ex),(4,I k)]
 [.live (.box [I o,.d (strD nm),I n,I m,.d (strD u),.d (.list (prDs subs))] false),.live (.dat 6 es false)]
end Go.Aev.M44
namespace Go.Aev.M44
theorem pt_0 {o n m:Int} {nm u:Bs} {subs:List Pr} {Q:V→Aev.Rows→Prop} (hp:AllP []) (h:Ends c0 0 (hd 33 td33 33 [(1,V.pt (0) (0) (0) (0)),(3,V.sl (1) (6) (0) (1) (1) true),(4,I 0)] [Slot.live (Row.box [I (Pr.op (Pr.mk o nm n m u subs)),V.d (D.str { data:={ toList:=nm } }),I (Pr.n (Pr.mk o nm n m u subs)),I (Pr.m (Pr.mk o nm n m u subs)),V.d (D.str { data:={ toList:=u } }),V.d (D.list (prDs (Pr.subs (Pr.mk o nm n m u subs))))] false),Slot.live (Row.dat (6) [D.agg [D.int IntKind.i64 (Pr.op (Pr.mk o nm n m u subs)),D.str { data:={ toList:=nm } },D.int IntKind.i64 (Pr.n (Pr.mk o nm n m u subs)),D.int IntKind.i64 (Pr.m (Pr.mk o nm n m u subs)),D.str { data:={ toList:=u } },D.list (prDs (Pr.subs (Pr.mk o nm n m u subs)))]] false)]) Q):Ends c0 0 (start c0 33 [.d (prC (.mk o nm n m u subs))] []) Q :=
 Ends.turn c0_ok (hints [] [] [] 0 false true) anyLoop 140 [0,1] [1,3,4] (by kernel_rfl) hp h
theorem pt_et {o n m:Int} {nm u:Bs} {subs:List Pr} {k:Int} {es:List D} {ex:Bool} {Q:V→Aev.Rows→Prop} (hp:AllP [decide (k < (↑(List.length (prDs subs)):Int)) = false,decide (k < (↑(List.length (prDs subs)):Int)) = false,decide (k < (↑(List.length (prDs subs)):Int)) = false,decide (k < (↑(List.length (prDs subs)):Int)) = false,decide ((↑es.length:Int) > (1000:Int)) = true,(0:Int) ≤ (1000:Int),6 = 6∧0 ≤ 1000∧1000 ≤ List.length es]) (h:Q (V.sl (1) (6) (0) (1000) (List.length es - 0) ex) ([Slot.live (Row.box [I o,V.d (D.str { data:={ toList:=nm } }),I n,I m,V.d (D.str { data:={ toList:=u } }),V.d (D.list (prDs subs))] false),Slot.live (Row.dat (6) es false)])):Ends c0 0 (H33 o n m nm u subs k es ex) Q :=
 Ends.toFin c0_ok (hints [(12,false),(29,true)] [] [] 0 false true) anyLoop 140 (by kernel_rfl) hp h
theorem pt_ef {o n m:Int} {nm u:Bs} {subs:List Pr} {k:Int} {es:List D} {ex:Bool} {Q:V→Aev.Rows→Prop} (hp:AllP [decide (k < (↑(List.length (prDs subs)):Int)) = false,decide (k < (↑(List.length (prDs subs)):Int)) = false,decide (k < (↑(List.length (prDs subs)):Int)) = false,decide (k < (↑(List.length (prDs subs)):Int)) = false,decide ((↑es.length:Int) > (1000:Int)) = false]) (h:Q (V.sl (1) (6) (0) es.length es.length ex) ([Slot.live (Row.box [I o,V.d (D.str { data:={ toList:=nm } }),I n,I m,V.d (D.str { data:={ toList:=u } }),V.d (D.list (prDs subs))] false),Slot.live (Row.dat (6) es false)])):Ends c0 0 (H33 o n m nm u subs k es ex) Q :=
 Ends.toFin c0_ok (hints [(12,false),(29,false)] [] [] 0 false true) anyLoop 140 (by kernel_rfl) hp h
theorem pt_ft {o n m:Int} {nm u:Bs} {subs:List Pr} {k:Int} {es:List D} {ex:Bool} {Q:V→Aev.Rows→Prop} (hp:AllP [decide (k < (↑(List.length (prDs subs)):Int)) = true,decide (k < (↑(List.length (prDs subs)):Int)) = true,decide (k < (↑(List.length (prDs subs)):Int)) = true,decide (k < (↑(List.length (prDs subs)):Int)) = true,decide ((↑es.length:Int) < (1000:Int)) = false,decide ((↑es.length:Int) > (1000:Int)) = true,(0:Int) ≤ (1000:Int),6 = 6∧0 ≤ 1000∧1000 ≤ List.length es]) (h:Q (V.sl (1) (6) (0) (1000) (List.length es - 0) ex) ([Slot.live (Row.box [I o,V.d (D.str { data:={ toList:=nm } }),I n,I m,V.d (D.str { data:={ toList:=u } }),V.d (D.list (prDs subs))] false),Slot.live (Row.dat (6) es false)])):Ends c0 0 (H33 o n m nm u subs k es ex) Q :=
 Ends.toFin c0_ok (hints [(12,true),(16,false),(29,true)] [] [] 0 false true) anyLoop 140 (by kernel_rfl) hp h
theorem pt_ff {o n m:Int} {nm u:Bs} {subs:List Pr} {k:Int} {es:List D} {ex:Bool} {Q:V→Aev.Rows→Prop} (hp:AllP [decide (k < (↑(List.length (prDs subs)):Int)) = true,decide (k < (↑(List.length (prDs subs)):Int)) = true,decide (k < (↑(List.length (prDs subs)):Int)) = true,decide (k < (↑(List.length (prDs subs)):Int)) = true,decide ((↑es.length:Int) < (1000:Int)) = false,decide ((↑es.length:Int) > (1000:Int)) = false]) (h:Q (V.sl (1) (6) (0) es.length es.length ex) ([Slot.live (Row.box [I o,V.d (D.str { data:={ toList:=nm } }),I n,I m,V.d (D.str { data:={ toList:=u } }),V.d (D.list (prDs subs))] false),Slot.live (Row.dat (6) es false)])):Ends c0 0 (H33 o n m nm u subs k es ex) Q :=
 Ends.toFin c0_ok (hints [(12,true),(16,false),(29,false)] [] [] 0 false true) anyLoop 140 (by kernel_rfl) hp h
theorem pt_t {o n m:Int} {nm u:Bs} {subs:List Pr} {k:Int} {es:List D} {o1 n1 m1:Int} {nm1 u1:Bs} {l1:List Pr} (hP:PtOK (.mk o1 nm1 n1 m1 u1 l1)) {r:List Pr} {Q:V→Aev.Rows→Prop} (hp:AllP [decide (k < (↑(List.length (prDs subs)):Int)) = true,decide (k < (↑(List.length (prDs subs)):Int)) = true,decide (k < (↑(List.length (prDs subs)):Int)) = true,decide (k < (↑(List.length (prDs subs)):Int)) = true,decide ((↑es.length:Int) < (1000:Int)) = true,(0:Int) ≤ k∧k < (↑(List.length (prDs subs)):Int),(prDs subs)[Int.toNat k]? = some (D.agg [D.int IntKind.i64 (Pr.op (Pr.mk o1 nm1 n1 m1 u1 l1)),D.str { data:={ toList:=nm1 } },D.int IntKind.i64 (Pr.n (Pr.mk o1 nm1 n1 m1 u1 l1)),D.int IntKind.i64 (Pr.m (Pr.mk o1 nm1 n1 m1 u1 l1)),D.str { data:={ toList:=u1 } },D.list (prDs (Pr.subs (Pr.mk o1 nm1 n1 m1 u1 l1)))]),6 = 6,prIs (D.agg (D.cells (Prod.snd (21,fun x=>prC (Pr.mk o1 nm1 n1 m1 u1 l1)) (Int.toNat k)))) (Pr.mk o1 nm1 n1 m1 u1 l1),ptIs (Pr.mk o1 nm1 n1 m1 u1 l1) r,(List.all (prDs r) fun e=>List.length (D.cells e) == 6) = true,0 < 6∧List.length (prDs r) ≠ 0∧6 = 6∧6 = 6∧0 + List.length es ≤ List.length es∧¬List.length es + List.length (prDs r) ≤ List.length es∧2 * (List.length es + List.length (prDs r)) * 80 ≤ 281474976710656∧List.length es + List.length (prDs r) ≤ 4611686018427387904,inInt (k + (1:Int))]) (h:Ends (cPt (.mk o1 nm1 n1 m1 u1 l1) r) 0 (hd 33 td33 33 [(1,V.pt (0) (0) (0) (0)),(3,V.sl (1) (6) (0) (List.length es + List.length (prDs r)) (List.length es + List.length (prDs r)) false),(4,I (k + (1:Int)))] [Slot.live (Row.box [I o,V.d (D.str { data:={ toList:=nm } }),I n,I m,V.d (D.str { data:={ toList:=u } }),V.d (D.list (prDs subs))] false),Slot.live (Row.dat (6) (List.take es.length (List.drop (0) es) ++ prDs r) false)]) Q):Ends (cPt (.mk o1 nm1 n1 m1 u1 l1) r) 0 (H33 o n m nm u subs k es true) Q :=
  Ends.turn (cPt_ok hP r) (hints [(12,true),(16,true)] [(21,fun _=>prC (.mk o1 nm1 n1 m1 u1 l1))] [] 1 false true) anyLoop 140 [0,
 2] [1,3,4] (by kernel_rfl) hp h
theorem pt_u {o n m:Int} {nm u:Bs} {subs:List Pr} {k:Int} {es:List D} {o1 n1 m1:Int} {nm1 u1:Bs} {l1:List Pr} (hP:PtOK (.mk o1 nm1 n1 m1 u1 l1)) {r:List Pr} {Q:V→Aev.Rows→Prop} (hp:AllP [decide (k < (↑(List.length (prDs subs)):Int)) = true,decide (k < (↑(List.length (prDs subs)):Int)) = true,decide (k < (↑(List.length (prDs subs)):Int)) = true,decide (k < (↑(List.length (prDs subs)):Int)) = true,decide ((↑es.length:Int) < (1000:Int)) = true,(0:Int) ≤ k∧k < (↑(List.length (prDs subs)):Int),(prDs subs)[Int.toNat k]? = some (D.agg [D.int IntKind.i64 (Pr.op (Pr.mk o1 nm1 n1 m1 u1 l1)),D.str { data:={ toList:=nm1 } },D.int IntKind.i64 (Pr.n (Pr.mk o1 nm1 n1 m1 u1 l1)),D.int IntKind.i64 (Pr.m (Pr.mk o1 nm1 n1 m1 u1 l1)),D.str { data:={ toList:=u1 } },D.list (prDs (Pr.subs (Pr.mk o1 nm1 n1 m1 u1 l1)))]),6 = 6,prIs (D.agg (D.cells (Prod.snd (21,fun x=>prC (Pr.mk o1 nm1 n1 m1 u1 l1)) (Int.toNat k)))) (Pr.mk o1 nm1 n1 m1 u1 l1),ptIs (Pr.mk o1 nm1 n1 m1 u1 l1) r,(List.all (prDs r) fun e=>List.length (D.cells e) == 6) = true,0 < 6∧List.length (prDs r) ≠ 0∧6 = 6∧6 = 6∧0 + List.length es ≤ List.length es∧¬List.length es + List.length (prDs r) ≤ List.length es∧2 * (List.length es + List.length (prDs r)) * 80 ≤ 281474976710656∧List.length es + List.length (prDs r) ≤ 4611686018427387904,inInt (k + (1:Int))]) (h:Ends (cPt (.mk o1 nm1 n1 m1 u1 l1) r) 0 (hd 33 td33 33 [(1,V.pt (0) (0) (0) (0)),(3,V.sl (1) (6) (0) (List.length es + List.length (prDs r)) (List.length es + List.length (prDs r)) false),(4,I (k + (1:Int)))] [Slot.live (Row.box [I o,V.d (D.str { data:={ toList:=nm } }),I n,I m,V.d (D.str { data:={ toList:=u } }),V.d (D.list (prDs subs))] false),Slot.live (Row.dat (6) (List.take es.length (List.drop (0) es) ++ prDs r) false)]) Q):Ends (cPt (.mk o1 nm1 n1 m1 u1 l1) r) 0 (H33 o n m nm u subs k es false) Q :=
  Ends.turn (cPt_ok hP r) (hints [(12,true),(16,true)] [(21,fun _=>prC (.mk o1 nm1 n1 m1 u1 l1))] [] 1 false true) anyLoop 140 [0,
 2] [1,3,4] (by kernel_rfl) hp h
end Go.Aev.M44
end
section
namespace Go.Aev.M44
set_option maxRecDepth 1000000
open Go Go.Aev
theorem conv_slk {rows:Aev.Rows} {r n c k:Nat} {es:List D} {ex ro:Bool} (hr:liveAt rows r = some (.dat k es ro)) (hl:n ≤ es.length) :
  convV (liveAt rows) (.sl r k 0 n c ex) = some (.d (.list (es.take n))):=by
 have h1:toD1 (liveAt rows) (.sl r k 0 n c ex) = some (.list (es.take n),[(r,.live (.dat k es true))]):=by
  simp only [toD1,hr,true_and,Nat.zero_add,hl,if_true,List.drop_zero]
 unfold convV
 simp only [conv1,conv0,h1]
theorem ptG_len:∀ (l:List Pr) (out:List Pr),out.length ≤ (ptG out l).length
 | [],out=>by simp [ptG]
 | p :: r,out=>by
  simp only [ptG]
  split
  ·have:=ptG_len r (out ++ ptC p)
   rw [List.length_append] at this; omega
  ·exact Nat.le_refl _
theorem ptC_pos (p:Pr):1 ≤ (ptC p).length:=by
 cases p with
 | mk o nm n m s l =>
  simp only [ptC]
  have:=ptG_len l [.mk o nm n m s l]
  rw [List.length_take]
  simp at this
  omega
theorem prDs_app (a b:List Pr):prDs (a ++ b) = prDs a ++ prDs b:=prDs_append a b
theorem prDs_take (l:List Pr) (k:Nat):(prDs l).take k = prDs (l.take k):=by
 induction l generalizing k with
 | nil=>simp [prDs]
 | cons x r ih=>cases k with
  | zero=>simp [prDs]
  | succ k=>simp [prDs,ih]
theorem prD_cells (p:Pr):(prD p).cells.length = 6:=by cases p; rfl
theorem prDs_all6 (l:List Pr):((prDs l).all fun e=>List.length (D.cells e) == 6) = true:=by
 induction l with
 | nil=>rfl
 | cons x r ih=>simp only [prDs,List.all_cons,prD_cells,ih]; rfl
theorem szP_mem {l:List Pr} {q:Pr} (h:q ∈ l):szP q < szL l:=by
 induction l with
 | nil=>cases h
 | cons x r ih =>
  simp only [szL]
  rcases List.mem_cons.1 h with rfl | h
  ·omega
  ·have:=ih h; omega
theorem pt_loop {o n m:Int} {nm u:Bs} {subs:List Pr} (hs:∀ q ∈ subs,PtOK q):∀ (j k:Nat) (out:List Pr) (ex:Bool),k + j = subs.length→k + 1 ≤ out.length→out.length < 2000 →
  Ends c0 0 (H33 o n m nm u subs (k:Int) (prDs out) ex) (fun v rows=>convV (liveAt rows) v = some (.d (.list (prDs ((ptG out (subs.drop k)).take 1000))))):=by
 have el:=prDs_len subs
 intro j
 induction j with
 | zero =>
  intro k out ex hk h1 h2
  have eo:=prDs_len out
  have hd1:decide ((k:Int) < ((prDs subs).length:Int)) = false:=decide_eq_false (by omega)
  rw [List.drop_of_length_le (by omega)]
  simp only [ptG]
  by_cases hb:out.length > 1000
  ·refine pt_et ⟨hd1,hd1,hd1,hd1,decide_eq_true (by omega),by omega,⟨rfl,by omega,by omega⟩,trivial⟩ ?_
   rw [← prDs_take]
   exact conv_slk rfl (by omega)
  ·refine pt_ef ⟨hd1,hd1,hd1,hd1,decide_eq_false (by omega),trivial⟩ ?_
   rw [List.take_of_length_le (by omega)]
   have:=conv_slk (rows:=[Slot.live (Row.box [I o,V.d (strD nm),I n,I m,V.d (strD u),V.d (D.list (prDs subs))] false),Slot.live (Row.dat (6) (prDs out) false)]) (r:=1) (n:=(prDs out).length) (c:=(prDs out).length) (k:=6) (es:=prDs out) (ex:=ex) rfl (Nat.le_refl _)
   rw [List.take_length] at this
   exact this
 | succ j ih =>
  intro k out ex hk h1 h2
  have eo:=prDs_len out
  have hd1:decide ((k:Int) < ((prDs subs).length:Int)) = true:=decide_eq_true (by omega)
  have hkl:k < subs.length:=by omega
  have hdrop:subs.drop k = subs.getD k zeroP :: subs.drop (k + 1):=drop_cons hkl zeroP
  rw [hdrop]
  by_cases hlt:out.length < 1000
  ·have hd2:decide (((prDs out).length:Int) < (1000:Int)) = true:=decide_eq_true (by omega)
   have hq:=hs _ (getD_mem hkl zeroP)
   have hget:=prDs_get hkl
   unfold elP at hget
   simp only [ptG]
   rw [if_pos hlt]
   cases hp:subs.getD k zeroP with
   | mk o1 nm1 n1 m1 u1 l1 =>
    rw [hp] at hq hget
    have hlen:=ptC_len (.mk o1 nm1 n1 m1 u1 l1)
    have hpos:=ptC_pos (.mk o1 nm1 n1 m1 u1 l1)
    have er:=prDs_len (ptC (.mk o1 nm1 n1 m1 u1 l1))
    have hget':(prDs subs)[Int.toNat (k:Int)]? = some (prC (.mk o1 nm1 n1 m1 u1 l1)):=by rw [Int.toNat_natCast]; exact hget
    have next:=ih (k + 1) (out ++ ptC (.mk o1 nm1 n1 m1 u1 l1)) false (by omega) (by rw [List.length_append]; omega) (by rw [List.length_append]; omega)
    have et:List.take (prDs out).length (List.drop 0 (prDs out)) = prDs out:=by rw [List.drop_zero,List.take_length]
    refine Ends.cfg (c:=cPt (.mk o1 nm1 n1 m1 u1 l1) (ptC (.mk o1 nm1 n1 m1 u1 l1))) rfl ?_
    have next:=Ends.cfg (c':=cPt (.mk o1 nm1 n1 m1 u1 l1) (ptC (.mk o1 nm1 n1 m1 u1 l1))) rfl next
    have fin:∀ {Q:V→Aev.Rows→Prop},Ends (cPt (.mk o1 nm1 n1 m1 u1 l1) (ptC (.mk o1 nm1 n1 m1 u1 l1))) 0 (H33 o n m nm u subs ((k + 1:Nat):Int) (prDs (out ++ ptC (.mk o1 nm1 n1 m1 u1 l1))) false) Q →
      Ends (cPt (.mk o1 nm1 n1 m1 u1 l1) (ptC (.mk o1 nm1 n1 m1 u1 l1))) 0 (hd 33 td33 33 [(1,V.pt (0) (0) (0) (0)),(3,V.sl (1) (6) (0) (List.length (prDs out) + List.length (prDs (ptC (.mk o1 nm1 n1 m1 u1 l1)))) (List.length (prDs out) + List.length (prDs (ptC (.mk o1 nm1 n1 m1 u1 l1)))) false),(4,I ((k:Int) + (1:Int)))] [Slot.live (Row.box [I o,V.d (strD nm),I n,I m,V.d (strD u),V.d (D.list (prDs subs))] false),Slot.live (Row.dat (6) (List.take (List.length (prDs out)) (List.drop (0) (prDs out)) ++ prDs (ptC (.mk o1 nm1 n1 m1 u1 l1))) false)]) Q:=by
     intro Q h
     rw [et,← prDs_app,← List.length_append,← prDs_app]
     exact h
    have hi:inInt ((k:Int) + (1:Int)):=by unfold inInt; omega
    have happ:0 < 6∧List.length (prDs (ptC (.mk o1 nm1 n1 m1 u1 l1))) ≠ 0∧6 = 6∧6 = 6∧0 + List.length (prDs out) ≤ List.length (prDs out)∧¬List.length (prDs out) + List.length (prDs (ptC (.mk o1 nm1 n1 m1 u1 l1))) ≤ List.length (prDs out)∧2 * (List.length (prDs out) + List.length (prDs (ptC (.mk o1 nm1 n1 m1 u1 l1)))) * 80 ≤ 281474976710656∧List.length (prDs out) + List.length (prDs (ptC (.mk o1 nm1 n1 m1 u1 l1))) ≤ 4611686018427387904:=⟨by omega,by omega,rfl,rfl,by omega,by omega,by omega,by omega⟩
    cases ex with
    | true=>exact pt_t hq ⟨hd1,hd1,hd1,hd1,hd2,by omega,hget',rfl,rfl,rfl,prDs_all6 _,happ,hi,trivial⟩ (fin next)
    | false=>exact pt_u hq ⟨hd1,hd1,hd1,hd1,hd2,by omega,hget',rfl,rfl,rfl,prDs_all6 _,happ,hi,trivial⟩ (fin next)
  ·have hd2:decide (((prDs out).length:Int) < (1000:Int)) = false:=decide_eq_false (by omega)
   simp only [ptG]
   rw [if_neg hlt]
   by_cases hb:out.length > 1000
   ·refine pt_ft ⟨hd1,hd1,hd1,hd1,hd2,decide_eq_true (by omega),by omega,⟨rfl,by omega,by omega⟩,trivial⟩ ?_
    rw [← prDs_take]
    exact conv_slk rfl (by omega)
   ·refine pt_ff ⟨hd1,hd1,hd1,hd1,hd2,decide_eq_false (by omega),trivial⟩ ?_
    rw [List.take_of_length_le (by omega)]
    have:=conv_slk (rows:=[Slot.live (Row.box [I o,V.d (strD nm),I n,I m,V.d (strD u),V.d (D.list (prDs subs))] false),Slot.live (Row.dat (6) (prDs out) false)]) (r:=1) (n:=(prDs out).length) (c:=(prDs out).length) (k:=6) (es:=prDs out) (ex:=ex) rfl (Nat.le_refl _)
    rw [List.take_length] at this
    exact this
theorem pt_ok:∀ (p:Pr),PtOK p:=by
 have key:∀ (n:Nat) (p:Pr),szP p ≤ n→PtOK p:=by
  intro n
  induction n with
  | zero=>intro p h; cases p; simp only [szP] at h; omega
  | succ n ih =>
   intro p h
   obtain ⟨o,nm,k,m,u,subs⟩:=p
   simp only [szP] at h
   have hs:∀ q ∈ subs,PtOK q:=fun q hq=>ih q (by have:=szP_mem hq; omega)
   refine rcs_of c0_ok (by kernel_rfl) (pt_0 trivial ?_)
   have:=pt_loop (o:=o) (n:=k) (m:=m) (nm:=nm) (u:=u) hs subs.length 0 [.mk o nm k m u subs] true (by omega) (by simp) (by simp)
   simp only [ptC]
   exact this
 exact fun p=>key (szP p) p (Nat.le_refl _)
theorem ptG_all:∀ (l:List Pr) (out:List Pr),(∀ q ∈ l,(ptC q).length < 1000→ptC q = parts q)→(ptG out l).length < 1000→ptG out l = out ++ partsL l
 | [],out,_,_=>by simp [ptG,partsL]
 | p :: r,out,h,hl=>by
  simp only [ptG] at hl ⊢
  by_cases hlt:out.length < 1000
  ·rw [if_pos hlt] at hl ⊢
   have h1:=ptG_len r (out ++ ptC p)
   rw [List.length_append] at h1
   have h2:=h p (by simp) (by omega)
   rw [ptG_all r _ (fun q hq=>h q (List.mem_cons_of_mem _ hq)) hl,h2]
   simp [partsL]
  ·rw [if_neg hlt] at hl; omega
theorem ptC_all:∀ (p:Pr),(ptC p).length < 1000→ptC p = parts p:=by
 have key:∀ (n:Nat) (p:Pr),szP p ≤ n→(ptC p).length < 1000→ptC p = parts p:=by
  intro n
  induction n with
  | zero=>intro p h; cases p; simp only [szP] at h; omega
  | succ n ih =>
   intro p h hl
   obtain ⟨o,nm,k,m,u,subs⟩:=p
   simp only [szP] at h
   simp only [ptC] at hl ⊢
   rw [List.length_take] at hl
   have hl2:(ptG [Pr.mk o nm k m u subs] subs).length < 1000:=by omega
   rw [List.take_of_length_le (by omega),ptG_all subs _ (fun q hq=>ih q (by have:=szP_mem hq; omega)) hl2]
   simp [parts]
 exact fun p=>key (szP p) p (Nat.le_refl _)
end Go.Aev.M44
end
section
namespace Go.Aev.M44
set_option maxRecDepth 1000000
open Go Go.Aev
def fewP:Nat→Pr→Bool
 | 0,_=>false
 | f + 1,p=>decide ((ptC p).length ≤ 100) && p.subs.all (fewP f)
def szIs (p:Pr) (z:Int):Prop:=((ptC p).length:Int) = z
def fwIs (f:Nat) (p:Pr) (b:Bool):Prop:=fewP f p = b
def tabF (p0:Pr) (z:Int) (p:Pr) (f:Nat) (b:Bool) (g:FuncId) (args:List V) (rows:Aev.Rows):Option (List Prop × V) :=
 match g,args,rows with
 | 10,[.d x],[]=>some ([prIs x p0,szIs p0 z],I z)
 | 32,[.d x,.d (.int .i64 e)],[]=>some ([prIs x p,e = (f:Int),fwIs f p b],B b)
 | _,_,_=>none
noncomputable def cFw (p0:Pr) (z:Int) (p:Pr) (f:Nat) (b:Bool):SCfg:=mk (fun _=>true) (tabF p0 z p f b)
theorem size_ {o n m:Int} {nm u:Bs} {l r:List Pr} {Q:V→Aev.Rows→Prop} (hp:AllP [prIs (D.agg [D.int IntKind.i64 o,strD nm,D.int IntKind.i64 n,D.int IntKind.i64 m,strD u,D.list (prDs l)]) (Pr.mk o nm n m u l),ptIs (Pr.mk o nm n m u l) r]) (h:Q (I ((prDs r).length:Int)) ([Slot.live (Row.box [I o,.d (strD nm),I n,I m,.d (strD u),.d (.list (prDs l))] false)])):Ends (cPt (.mk o nm n m u l) r) 0 (start (cPt (.mk o nm n m u l) r) 10 [.d (prC (.mk o nm n m u l))] []) Q :=
 Ends.toFin (cPt_ok (pt_ok _) r) (hints [] [] [] 0 false true) anyLoop 140 (by kernel_rfl) hp h
theorem size_ok (p:Pr):RCs PP 10 [.d (prC p)] [] (I ((ptC p).length:Int)):=by
 obtain ⟨o,nm,n,m,u,l⟩:=p
 refine rcs_of (cPt_ok (pt_ok _) (ptC (.mk o nm n m u l))) (by kernel_rfl) (size_ ⟨rfl,rfl,trivial⟩ ?_)
 rw [prDs_len]
 rfl
def FwOK (f:Nat) (p:Pr):Prop:=RCs PP 32 [.d (prC p),I (f:Int)] [] (B (fewP f p))
theorem tabF_ok {p0:Pr} {z:Int} {p:Pr} {f:Nat} {b:Bool} (hf:FwOK f p):TableOK (cFw p0 z p f b):=by
 intro g args rows ps v h hps
 change tabF p0 z p f b g args rows = _ at h
 unfold tabF at h
 split at h
 ·cases h
  obtain ⟨h1,h2,_⟩:=hps
  unfold prIs at h1; unfold szIs at h2
  subst h1; subst h2
  exact size_ok p0
 ·cases h
  obtain ⟨h1,h2,h3,_⟩:=hps
  unfold prIs at h1; unfold fwIs at h3
  subst h1; subst h2; subst h3
  exact hf
 ·cases h
theorem cFw_ok {p0:Pr} {z:Int} {p:Pr} {f:Nat} {b:Bool} (hf:FwOK f p):COK (cFw p0 z p f b).cfg:=mk_ok (tabF_ok hf)
end Go.Aev.M44
end
section
set_option maxRecDepth 1000000
set_option linter.unusedVariables false
namespace Go.Aev.M44
open Go Go.Aev
noncomputable def td32:List AItem:=(nextOf (sTo (cFw zeroP 0 zeroP 0 false) (hints [(9,false),(13,false)]) anyLoop 300 (start (cFw zeroP 0 zeroP 0 false) 32 [.d (prC zeroP),I 1] []))).fr.todo
noncomputable def H32 (o n m:Int) (nm u:Bs) (subs:List Pr) (d k:Int):AS:=hd 32 td32 31 [(1,I d),(2,.pt 0 0 0 0),(5,I k)]
 [.live (.box [I o,.d (strD nm),I n,I m,.d (strD u),.d (.list (prDs subs))] false)]
end Go.Aev.M44
namespace Go.Aev.M44
theorem fw_0 {o n m:Int} {nm u:Bs} {subs:List Pr} {d:Int} {Q:V→Aev.Rows→Prop} (hp:AllP [decide (d < (1:Int)) = true,decide (d < (1:Int)) = true,decide (d < (1:Int)) = true,decide (d < (1:Int)) = true]) (h:Q (V.d (D.bool false)) ([Slot.live (Row.box [I (Pr.op (Pr.mk o nm n m u subs)),V.d (D.str { data:={ toList:=nm } }),I (Pr.n (Pr.mk o nm n m u subs)),I (Pr.m (Pr.mk o nm n m u subs)),V.d (D.str { data:={ toList:=u } }),V.d (D.list (prDs (Pr.subs (Pr.mk o nm n m u subs))))] false)])):Ends c0 0 (start c0 32 [.d (prC (.mk o nm n m u subs)),I d] []) Q :=
 Ends.toFin c0_ok (hints [(9,true)] [] [] 0 false true) anyLoop 140 (by kernel_rfl) hp h
theorem fw_st {o n m:Int} {nm u:Bs} {subs:List Pr} {d z:Int} {p:Pr} {f:Nat} {b:Bool} (hF:FwOK f p) {Q:V→Aev.Rows→Prop} (hp:AllP [decide (d < (1:Int)) = false,decide (d < (1:Int)) = false,prIs (D.agg [D.int IntKind.i64 (Pr.op (Pr.mk o nm n m u subs)),strD (Pr.name (Pr.mk o nm n m u subs)),D.int IntKind.i64 (Pr.n (Pr.mk o nm n m u subs)),D.int IntKind.i64 (Pr.m (Pr.mk o nm n m u subs)),strD (Pr.s (Pr.mk o nm n m u subs)),D.list (prDs (Pr.subs (Pr.mk o nm n m u subs)))]) (Pr.mk o nm n m u subs),szIs (Pr.mk o nm n m u subs) z,decide (d < (1:Int)) = false,decide (d < (1:Int)) = false,decide (z > (100:Int)) = true]) (h:Q (V.d (D.bool false)) ([Slot.live (Row.box [I (Pr.op (Pr.mk o nm n m u subs)),V.d (D.str { data:={ toList:=nm } }),I (Pr.n (Pr.mk o nm n m u subs)),I (Pr.m (Pr.mk o nm n m u subs)),V.d (D.str { data:={ toList:=u } }),V.d (D.list (prDs (Pr.subs (Pr.mk o nm n m u subs))))] false)])):Ends (cFw (.mk o nm n m u subs) z p f b) 0 (start (cFw (.mk o nm n m u subs) z p f b) 32 [.d (prC (.mk o nm n m u subs)),I d] []) Q :=
 Ends.toFin (cFw_ok hF) (hints [(9,false),(13,true)] [] [] 0 false true) anyLoop 140 (by kernel_rfl) hp h
theorem fw_sf {o n m:Int} {nm u:Bs} {subs:List Pr} {d z:Int} {p:Pr} {f:Nat} {b:Bool} (hF:FwOK f p) {Q:V→Aev.Rows→Prop} (hp:AllP [decide (d < (1:Int)) = false,decide (d < (1:Int)) = false,prIs (D.agg [D.int IntKind.i64 (Pr.op (Pr.mk o nm n m u subs)),strD (Pr.name (Pr.mk o nm n m u subs)),D.int IntKind.i64 (Pr.n (Pr.mk o nm n m u subs)),D.int IntKind.i64 (Pr.m (Pr.mk o nm n m u subs)),strD (Pr.s (Pr.mk o nm n m u subs)),D.list (prDs (Pr.subs (Pr.mk o nm n m u subs)))]) (Pr.mk o nm n m u subs),szIs (Pr.mk o nm n m u subs) z,decide (d < (1:Int)) = false,decide (d < (1:Int)) = false,decide (z > (100:Int)) = false]) (h:Ends (cFw (.mk o nm n m u subs) z p f b) 0 (hd 32 td32 31 [(1,I d),(2,V.pt (0) (0) (0) (0)),(5,I 0)] [Slot.live (Row.box [I (Pr.op (Pr.mk o nm n m u subs)),V.d (D.str { data:={ toList:=nm } }),I (Pr.n (Pr.mk o nm n m u subs)),I (Pr.m (Pr.mk o nm n m u subs)),V.d (D.str { data:={ toList:=u } }),V.d (D.list (prDs (Pr.subs (Pr.mk o nm n m u subs))))] false)]) Q):Ends (cFw (.mk o nm n m u subs) z p f b) 0 (start (cFw (.mk o nm n m u subs) z p f b) 32 [.d (prC (.mk o nm n m u subs)),I d] []) Q :=
  Ends.turn (cFw_ok hF) (hints [(9,false),(13,false)] [] [] 0 false true) anyLoop 140 [0] [1,
 2,
 5] (by kernel_rfl) hp h
theorem fw_e {o n m:Int} {nm u:Bs} {subs:List Pr} {d k:Int} {Q:V→Aev.Rows→Prop} (hp:AllP [decide (k < (↑(List.length (prDs subs)):Int)) = false]) (h:Q (V.d (D.bool true)) ([Slot.live (Row.box [I o,V.d (D.str { data:={ toList:=nm } }),I n,I m,V.d (D.str { data:={ toList:=u } }),V.d (D.list (prDs subs))] false)])):Ends c0 0 (H32 o n m nm u subs d k) Q :=
 Ends.toFin c0_ok (hints [(18,false)] [] [] 0 false true) anyLoop 140 (by kernel_rfl) hp h
theorem fw_lt {o n m:Int} {nm u:Bs} {subs:List Pr} {d k:Int} {o1 n1 m1:Int} {nm1 u1:Bs} {l1:List Pr} {f:Nat} {b:Bool} (hF:FwOK f (.mk o1 nm1 n1 m1 u1 l1)) {Q:V→Aev.Rows→Prop} (hp:AllP [decide (k < (↑(List.length (prDs subs)):Int)) = true,(0:Int) ≤ k∧k < (↑(List.length (prDs subs)):Int),(prDs subs)[Int.toNat k]? = some (D.agg [D.int IntKind.i64 (Pr.op (Pr.mk o1 nm1 n1 m1 u1 l1)),D.str { data:={ toList:=nm1 } },D.int IntKind.i64 (Pr.n (Pr.mk o1 nm1 n1 m1 u1 l1)),D.int IntKind.i64 (Pr.m (Pr.mk o1 nm1 n1 m1 u1 l1)),D.str { data:={ toList:=u1 } },D.list (prDs (Pr.subs (Pr.mk o1 nm1 n1 m1 u1 l1)))]),6 = 6,inInt (d - (1:Int)),prIs (D.agg (D.cells (Prod.snd (22,fun x=>prC (Pr.mk o1 nm1 n1 m1 u1 l1)) (Int.toNat k)))) (Pr.mk o1 nm1 n1 m1 u1 l1),d - (1:Int) = (↑f:Int),fwIs f (Pr.mk o1 nm1 n1 m1 u1 l1) b,(!b) = true]) (h:Q (V.d (D.bool false)) ([Slot.live (Row.box [I o,V.d (D.str { data:={ toList:=nm } }),I n,I m,V.d (D.str { data:={ toList:=u } }),V.d (D.list (prDs subs))] false)])):Ends (cFw zeroP 0 (.mk o1 nm1 n1 m1 u1 l1) f b) 0 (H32 o n m nm u subs d k) Q :=
 Ends.toFin (cFw_ok hF) (hints [(18,true),(30,true)] [(22,fun _=>prC (.mk o1 nm1 n1 m1 u1 l1))] [] 0 false true) anyLoop 140 (by kernel_rfl) hp h
theorem fw_lf {o n m:Int} {nm u:Bs} {subs:List Pr} {d k:Int} {o1 n1 m1:Int} {nm1 u1:Bs} {l1:List Pr} {f:Nat} {b:Bool} (hF:FwOK f (.mk o1 nm1 n1 m1 u1 l1)) {Q:V→Aev.Rows→Prop} (hp:AllP [decide (k < (↑(List.length (prDs subs)):Int)) = true,(0:Int) ≤ k∧k < (↑(List.length (prDs subs)):Int),(prDs subs)[Int.toNat k]? = some (D.agg [D.int IntKind.i64 (Pr.op (Pr.mk o1 nm1 n1 m1 u1 l1)),D.str { data:={ toList:=nm1 } },D.int IntKind.i64 (Pr.n (Pr.mk o1 nm1 n1 m1 u1 l1)),D.int IntKind.i64 (Pr.m (Pr.mk o1 nm1 n1 m1 u1 l1)),D.str { data:={ toList:=u1 } },D.list (prDs (Pr.subs (Pr.mk o1 nm1 n1 m1 u1 l1)))]),6 = 6,inInt (d - (1:Int)),prIs (D.agg (D.cells (Prod.snd (22,fun x=>prC (Pr.mk o1 nm1 n1 m1 u1 l1)) (Int.toNat k)))) (Pr.mk o1 nm1 n1 m1 u1 l1),d - (1:Int) = (↑f:Int),fwIs f (Pr.mk o1 nm1 n1 m1 u1 l1) b,(!b) = false,inInt (k + (1:Int))]) (h:Ends (cFw zeroP 0 (.mk o1 nm1 n1 m1 u1 l1) f b) 0 (hd 32 td32 31 [(1,I d),(2,V.pt (0) (0) (0) (0)),(5,I (k + (1:Int)))] [Slot.live (Row.box [I o,V.d (D.str { data:={ toList:=nm } }),I n,I m,V.d (D.str { data:={ toList:=u } }),V.d (D.list (prDs subs))] false)]) Q):Ends (cFw zeroP 0 (.mk o1 nm1 n1 m1 u1 l1) f b) 0 (H32 o n m nm u subs d k) Q :=
  Ends.turn (cFw_ok hF) (hints [(18,true),(30,false)] [(22,fun _=>prC (.mk o1 nm1 n1 m1 u1 l1))] [] 0 false true) anyLoop 140 [0] [1,
 2,
 5] (by kernel_rfl) hp h
end Go.Aev.M44
end
section
namespace Go.Aev.M44
set_option maxRecDepth 1000000
open Go Go.Aev
theorem parts_pos (p:Pr):1 ≤ (parts p).length:=by cases p; simp [parts]
theorem partsL_len:∀ (l:List Pr),l.length ≤ (partsL l).length
 | []=>Nat.le_refl _
 | p :: r=>by
  have:=partsL_len r
  have:=parts_pos p
  simp only [partsL,List.length_append,List.length_cons]; omega
theorem subs_few {o n m:Int} {nm u:Bs} {subs:List Pr} {z:Nat} (h:(ptC (.mk o nm n m u subs)).length ≤ z) (hz:z < 1000):subs.length < z:=by
 have:=ptC_all (.mk o nm n m u subs) (by omega)
 rw [this] at h
 have:=partsL_len subs
 simp only [parts,List.length_cons] at h
 omega
theorem fw_loop {o n m:Int} {nm u:Bs} {subs:List Pr} {f:Nat} (hs:∀ q ∈ subs,FwOK f q) (hf:f ≤ 1000) (hl:subs.length < 1000):∀ (j k:Nat),k + j = subs.length →
  Ends c0 0 (H32 o n m nm u subs ((f + 1:Nat):Int) (k:Int)) (fun v rows=>convV (liveAt rows) v = some (B ((subs.drop k).all (fewP f)))):=by
 have el:=prDs_len subs
 intro j
 induction j with
 | zero =>
  intro k hk
  rw [List.drop_of_length_le (by omega)]
  exact fw_e ⟨decide_eq_false (by omega),trivial⟩ rfl
 | succ j ih =>
  intro k hk
  have hkl:k < subs.length:=by omega
  rw [drop_cons hkl zeroP]
  have hd1:decide ((k:Int) < ((prDs subs).length:Int)) = true:=decide_eq_true (by omega)
  have hq:=hs _ (getD_mem hkl zeroP)
  have hget:=prDs_get hkl
  unfold elP at hget
  cases hp:subs.getD k zeroP with
  | mk o1 nm1 n1 m1 u1 l1 =>
   rw [hp] at hq hget
   have hget':(prDs subs)[Int.toNat (k:Int)]? = some (prC (.mk o1 nm1 n1 m1 u1 l1)):=by rw [Int.toNat_natCast]; exact hget
   have i1:inInt (((f + 1:Nat):Int) - (1:Int)):=by unfold inInt; omega
   have i2:inInt ((k:Int) + (1:Int)):=by unfold inInt; omega
   have i3:((f + 1:Nat):Int) - (1:Int) = (f:Int):=by omega
   rw [List.all_cons]
   refine Ends.cfg (c:=cFw zeroP 0 (.mk o1 nm1 n1 m1 u1 l1) f (fewP f (.mk o1 nm1 n1 m1 u1 l1))) rfl ?_
   cases hb:fewP f (.mk o1 nm1 n1 m1 u1 l1) with
   | false=>exact fw_lt hq ⟨hd1,by omega,hget',rfl,i1,rfl,i3,hb,rfl,trivial⟩ rfl
   | true =>
    refine fw_lf hq ⟨hd1,by omega,hget',rfl,i1,rfl,i3,hb,rfl,i2,trivial⟩ ?_
    exact Ends.cfg rfl (ih (k + 1) (by omega))
theorem fw_ok:∀ (f:Nat) (p:Pr),f ≤ 1000→FwOK f p:=by
 intro f
 induction f with
 | zero =>
  intro p _
  obtain ⟨o,nm,n,m,u,subs⟩:=p
  have hd1:decide (((0:Nat):Int) < (1:Int)) = true:=rfl
  exact rcs_of c0_ok (by kernel_rfl) (fw_0 ⟨hd1,hd1,hd1,hd1,trivial⟩ rfl)
 | succ f ih =>
  intro p hf
  obtain ⟨o,nm,n,m,u,subs⟩:=p
  have hF:=ih zeroP (by omega)
  have hd1:decide (((f + 1:Nat):Int) < (1:Int)) = false:=decide_eq_false (by omega)
  refine rcs_of (cFw_ok (p0:=.mk o nm n m u subs) (z:=((ptC (.mk o nm n m u subs)).length:Int)) (b:=fewP f zeroP) hF) (by kernel_rfl) ?_
  show Ends _ 0 _ (fun v rows=>convV (liveAt rows) v = some (B (decide ((ptC (.mk o nm n m u subs)).length ≤ 100) && subs.all (fewP f))))
  by_cases hz:(ptC (.mk o nm n m u subs)).length ≤ 100
  ·rw [decide_eq_true hz,Bool.true_and]
   refine fw_sf hF ⟨hd1,hd1,rfl,rfl,hd1,hd1,decide_eq_false (by omega),trivial⟩ ?_
   have:=fw_loop (o:=o) (n:=n) (m:=m) (nm:=nm) (u:=u) (subs:=subs) (f:=f) (fun q _=>ih q (by omega)) (by omega) (by have:=subs_few hz (by omega); omega) subs.length 0 (by omega)
   exact Ends.cfg rfl this
  ·rw [decide_eq_false hz,Bool.false_and]
   exact fw_st hF ⟨hd1,hd1,rfl,rfl,hd1,hd1,decide_eq_true (by omega),trivial⟩ rfl
end Go.Aev.M44
end
section
namespace Go.Aev.M44
set_option maxRecDepth 1000000
open Go Go.Aev
theorem Does.ofSl {P:Program} {g:FuncId} {es:List D} {b:Bs} {c:Nat} {ex ro:Bool} (h:Does P g 0 [.d (.list es)] [] (NewB b)) :
  Does P g 1 [.sl 0 1 0 es.length c ex] [.live (.dat 1 es ro)] (fun x y=>x = .sl 1 1 0 b.length b.length false∧y = [.live (.dat 1 es true),.live (.dat 1 (bytesL b) false)]):=by
 intro w0 own m S w vs inv ha cs
 have htd:toD1 (liveAt [.live (.dat 1 es ro)]) (.sl 0 1 0 es.length c ex) = some (.list es,[(0,.live (.dat 1 es true))]):=by
  simp only [toD1]
  show (match (some (.dat 1 es ro):Option Row) with | some (.dat k' es _)=>_ | _=>none) = _
  simp
 have hg:GD (liveAt [.live (.dat 1 es ro)]) [.live (.dat 1 es ro)]:=(liveAt_ok _).gd
 obtain ⟨v0,rfl,hv0⟩:=get1 ha
 obtain ⟨S1,i1,e1,r1,_⟩:=toD1_sound inv hg htd hv0
 have i1:Inv w0 own m S1 w [.live (.dat 1 es true)]:=i1
 have i2:Inv w ⟨fun _=>False,S1⟩ (fun _=>Option.none) S1 w []:=Inv.start w (fun b hb=>i1.sbnd b hb) i1.glb
 obtain ⟨e,w',fr,⟨u,v,rows2,rfl,⟨rfl,rfl⟩,m',S',i3,r3,_,hsz⟩,h3⟩:=h w ⟨fun _=>False,S1⟩ (fun _=>Option.none) S1 w #[v0] i2 (RVs_one (.d _ _ r1)) cs
 obtain ⟨i4,e4⟩:=new_inv i1 (ow:=⟨fun _=>False,S1⟩) (fun b h=>h) (fun b h=>h) (fun b h=>h) (rows2:=outR b) (rows3:=outR b) i3 hsz rfl
 refine ⟨_,w',fr,⟨u,_,_,rfl,⟨rfl,rfl⟩,_,S',i4,?_,fun r hr p hp=>?_,hsz⟩,h3⟩
 ·exact renV_by (f:=fun j=>some (1 + j)) (n:=8) (v:=outV b) (fun r j hj=>by
   cases hj
   show joinM 1 m m' (1 + r) = m' r
   rw [joinM_ge (by omega)]; congr 1; omega) rfl r3
 ·show joinM 1 m m' r = some p
  rw [joinM_lt (by omega)]
  exact hp
end Go.Aev.M44
end
section
set_option maxRecDepth 1000000
set_option linter.unusedVariables false
namespace Go.Aev.M44
open Go Go.Aev
noncomputable def C30 (l:List Int):AS:=nextOf (sTo c0 (hints []) (toCall 4) 300 (start c0 30 [L l] []))
noncomputable def C31 (l:List Bs):AS:=nextOf (sTo c0 (hints []) (toCall 4) 300 (start c0 31 [LS l] []))
end Go.Aev.M44
namespace Go.Aev.M44
theorem wr30 {l:List Int} {o:List UInt8} {Q:V→Aev.Rows→Prop} (hp:AllP []) (h:Q (V.sl (0) (1) (0) o.length o.length false) ([Slot.live (Row.dat (1) (bytesL o) false)])):Ends c0 0 (afterN (C30 l) (outV o) (outR o)) Q :=
 Ends.toFin c0_ok (hints [] [] [] 0 false true) anyLoop 140 (by kernel_rfl) hp h
theorem wr31 {l:List Bs} {o:List UInt8} {Q:V→Aev.Rows→Prop} (hp:AllP []) (h:Q (V.sl (0) (1) (0) o.length o.length false) ([Slot.live (Row.dat (1) (bytesL o) false)])):Ends c0 0 (afterN (C31 l) (outV o) (outR o)) Q :=
 Ends.toFin c0_ok (hints [] [] [] 0 false true) anyLoop 140 (by kernel_rfl) hp h
end Go.Aev.M44
end
section
namespace Go.Aev.M44
set_option maxRecDepth 1000000
open Go Go.Aev
theorem ints_new {l:List Int} (hl:fits l.length) (ha:∀ x ∈ l,in64 x):Does PP 30 0 [L l] [] (NewB (eInts l)):=by
 refine Bytes.new (does_of c0_ok (by kernel_rfl) ?_)
 refine Ends.to c0_ok (hints []) (toCall 4) 300 (ps:=[]) (s':=C30 l) (by kernel_rfl) trivial ?_
 exact Ends.callB c0_ok (g:=89) (ar:=[L l,.fn 90 []]) (l:=eInts l) (by kernel_rfl) (list_ints_new hl ha) (by kernel_rfl) (wr30 trivial ⟨0,rfl,rfl⟩)
theorem strs_new {l:List Bs} (hl:fits l.length) (ha:∀ x ∈ l,small x.length) (hs:small (eStrs l).length):Does PP 31 0 [LS l] [] (NewB (eStrs l)):=by
 refine Bytes.new (does_of c0_ok (by kernel_rfl) ?_)
 refine Ends.to c0_ok (hints []) (toCall 4) 300 (ps:=[]) (s':=C31 l) (by kernel_rfl) trivial ?_
 exact Ends.callB c0_ok (g:=91) (ar:=[LS l,.fn 92 []]) (l:=eStrs l) (by kernel_rfl) (list_strs_new hl ha hs) (by kernel_rfl) (wr31 trivial ⟨0,rfl,rfl⟩)
end Go.Aev.M44
end
section
namespace Go.Aev.M44
set_option maxRecDepth 1000000
open Go Go.Aev
def all64 (es:List D):Prop:=∀ x ∈ es.map unI,in64 x
def allSm (es:List D):Prop:=∀ x ∈ es.map unS,small x.length
def eiIs (l:List Int) (b:Bs):Prop:=eInts l = b
def esIs (l:List Bs) (b:Bs):Prop:=eStrs l = b
def tabEW (bI bS:Bs) (g:FuncId) (args:List V) (rows:Aev.Rows):Option (List Prop × V × Aev.Rows) :=
 match g,args,rows with
 | 34,[.sl 0 1 0 n _ _],[.live (.dat 1 es _)]=>some ([n = es.length,isI es,fits es.length,all64 es,eiIs (es.map unI) bI],.sl 1 1 0 bI.length bI.length false,[.live (.dat 1 es true),.live (.dat 1 (bytesL bI) false)])
 | 30,[.sl 0 1 0 n _ _],[.live (.dat 1 es _)]=>some ([n = es.length,isI es,fits es.length,all64 es,eiIs (es.map unI) bI],.sl 1 1 0 bI.length bI.length false,[.live (.dat 1 es true),.live (.dat 1 (bytesL bI) false)])
 | 35,[.sl 0 1 0 n _ _],[.live (.dat 1 es _)]=>some ([n = es.length,isS es,fits es.length,allSm es,esIs (es.map unS) bS,small bS.length],.sl 1 1 0 bS.length bS.length false,[.live (.dat 1 es true),.live (.dat 1 (bytesL bS) false)])
 | 31,[.sl 0 1 0 n _ _],[.live (.dat 1 es _)]=>some ([n = es.length,isS es,fits es.length,allSm es,esIs (es.map unS) bS,small bS.length],.sl 1 1 0 bS.length bS.length false,[.live (.dat 1 es true),.live (.dat 1 (bytesL bS) false)])
 | _,_,_=>none
theorem tabEW_ok {bI bS:Bs} {g:FuncId} {args:List V} {rows:Aev.Rows} {ps:List Prop} {v:V} {rows2:Aev.Rows} (h:tabEW bI bS g args rows = some (ps,v,rows2)) (hp:AllP ps):Does PP g rows.length args rows (fun x y=>x = v∧y = rows2):=by
 unfold tabEW at h
 split at h
 ·rename_i n c ex es ro
  cases h
  obtain ⟨h1,h2,h3,h4,h5,_⟩:=hp
  unfold isI at h2; unfold eiIs at h5
  subst h1
  have:=rints_new (l:=es.map unI) (by rw [List.length_map]; exact h3) h4
  rw [h5,L,← h2] at this
  exact Does.ofSl this
 ·rename_i n c ex es ro
  cases h
  obtain ⟨h1,h2,h3,h4,h5,_⟩:=hp
  unfold isI at h2; unfold eiIs at h5
  subst h1
  have:=ints_new (l:=es.map unI) (by rw [List.length_map]; exact h3) h4
  rw [h5,L,← h2] at this
  exact Does.ofSl this
 ·rename_i n c ex es ro
  cases h
  obtain ⟨h1,h2,h3,h4,h5,h6,_⟩:=hp
  unfold isS at h2; unfold esIs at h5
  subst h1
  have:=rstrs_new (l:=es.map unS) (by rw [List.length_map]; exact h3) h4 (by rw [h5]; exact h6)
  rw [h5,LS,← h2] at this
  exact Does.ofSl this
 ·rename_i n c ex es ro
  cases h
  obtain ⟨h1,h2,h3,h4,h5,h6,_⟩:=hp
  unfold isS at h2; unfold esIs at h5
  subst h1
  have:=strs_new (l:=es.map unS) (by rw [List.length_map]; exact h3) h4 (by rw [h5]; exact h6)
  rw [h5,LS,← h2] at this
  exact Does.ofSl this
 ·cases h
noncomputable def cE (p:Pr) (r:List Pr) (bI bS:Bs):SCfg:=mkW PP (fun _=>true) (tabP p r) (tabEW bI bS)
theorem cE_ok (p:Pr) (r:List Pr) (bI bS:Bs):COK (cE p r bI bS).cfg:=mkW_ok names mixed (tabP_ok (pt_ok p)) (fun g args rows ps v rows2 h hp=>tabEW_ok h hp)
end Go.Aev.M44
end
section
set_option maxRecDepth 1000000
set_option linter.unusedVariables false
namespace Go.Aev.M44
open Go Go.Aev
abbrev qA (vec:List Int) (k w d c g:Int) (o n m:Int) (nm u:Bs) (l:List Pr):V:=.d (.agg [.list (ints vec),.int .i64 k,.int .i64 w,.int .i64 o,strD nm,.int .i64 n,.int .i64 m,strD u,.list (prDs l),.int .i64 d,.int .i64 c,.int .i64 g])
noncomputable def td11:List AItem:=(nextOf (sTo (cE zeroP [] [] []) (hints [] [] [] 3) anyLoop 300 (start (cE zeroP [] [] []) 11 [qA [] 0 0 0 0 0 0 0 0 [] [] []] []))).fr.todo
noncomputable def H11a (ns:List Int) (r:List Pr) (k:Int) (ex:Bool):AS:=hd 11 td11 78 [(3,.sl 0 1 0 (ints ns).length (ints ns).length ex),(4,.d (.list (prDs r))),(5,.nil),(6,I k)] [.live (.dat 1 (ints ns) false)]
noncomputable def H11b (ns:List Int) (ts:List Bs) (r:List Pr) (k:Int):AS:=hd 11 td11 78 [(3,.sl 0 1 0 (ints ns).length (ints ns).length false),(4,.d (.list (prDs r))),(5,.sl 1 1 0 (strs ts).length (strs ts).length false),(6,I k)] [.live (.dat 1 (ints ns) false),.live (.dat 1 (strs ts) false)]
end Go.Aev.M44
namespace Go.Aev.M44
theorem re_z {k w d c g o n m:Int} {nm u:Bs} {l r:List Pr} {Q:V→Aev.Rows→Prop} (hp:AllP [true = true,0 < 1∧0 = 0,prIs (D.agg [D.int IntKind.i64 o,strD nm,D.int IntKind.i64 n,D.int IntKind.i64 m,strD u,D.list (prDs l)]) (Pr.mk o nm n m u l),ptIs (Pr.mk o nm n m u l) r]) (h:Ends (cE (.mk o nm n m u l) r [] []) 0 (hd 11 td11 78 [(3,V.sl (0) (1) (0) (6) (6) true),(4,V.d (D.list (prDs r))),(5,V.nil),(6,I 0)] [Slot.live (Row.dat (1) [D.int IntKind.i64 k,D.int IntKind.i64 w,D.int IntKind.i64 d,D.int IntKind.i64 c,D.int IntKind.i64 g,D.int IntKind.i64 (0:Int)] false)]) Q):Ends (cE (.mk o nm n m u l) r [] []) 0 (start (cE (.mk o nm n m u l) r [] []) 11 [qA [] k w d c g o n m nm u l] []) Q :=
  Ends.turn (cE_ok (.mk o nm n m u l) r [] []) (hints [] [] [] 3 false true) anyLoop 140 [1] [3,
 4,
 5,
 6] (by kernel_rfl) hp h
theorem re_a {vec:List Int} {k w d c g o n m:Int} {nm u:Bs} {l r:List Pr} {Q:V→Aev.Rows→Prop} (hp:AllP [(List.all (ints vec) fun e=>List.length (D.cells e) == 1) = true,0 < 1∧List.length (ints vec) ≠ 0∧1 = 1∧1 = 1∧6 ≤ 6∧¬6 + List.length (ints vec) ≤ 6∧2 * (6 + List.length (ints vec)) * 8 ≤ 281474976710656∧6 + List.length (ints vec) ≤ 4611686018427387904,prIs (D.agg [D.int IntKind.i64 o,strD nm,D.int IntKind.i64 n,D.int IntKind.i64 m,strD u,D.list (prDs l)]) (Pr.mk o nm n m u l),ptIs (Pr.mk o nm n m u l) r]) (h:Ends (cE (.mk o nm n m u l) r [] []) 0 (hd 11 td11 78 [(3,V.sl (0) (1) (0) (6 + List.length (ints vec)) (6 + List.length (ints vec)) false),(4,V.d (D.list (prDs r))),(5,V.nil),(6,I 0)] [Slot.live (Row.dat (1) (D.int IntKind.i64 k :: D.int IntKind.i64 w :: D.int IntKind.i64 d :: D.int IntKind.i64 c :: D.int IntKind.i64 g :: D.int IntKind.i64 (↑(List.length (ints vec)):Int) :: (ints vec)) false)]) Q):Ends (cE (.mk o nm n m u l) r [] []) 0 (start (cE (.mk o nm n m u l) r [] []) 11 [qA vec k w d c g o n m nm u l] []) Q :=
  Ends.turn (cE_ok (.mk o nm n m u l) r [] []) (hints [] [] [] 1 false true) anyLoop 140 [2] [3,
 4,
 5,
 6] (by kernel_rfl) hp h
theorem rs_t {ns:List Int} {r:List Pr} {k o1 n1 m1:Int} {nm1 u1:Bs} {l1:List Pr} {Q:V→Aev.Rows→Prop} (hp:AllP [decide (k < (↑(List.length (prDs r)):Int)) = true,(0:Int) ≤ k∧k < (↑(List.length (prDs r)):Int),(prDs r)[Int.toNat k]? = some (D.agg [D.int IntKind.i64 (Pr.op (Pr.mk o1 nm1 n1 m1 u1 l1)),D.str { data:={ toList:=nm1 } },D.int IntKind.i64 (Pr.n (Pr.mk o1 nm1 n1 m1 u1 l1)),D.int IntKind.i64 (Pr.m (Pr.mk o1 nm1 n1 m1 u1 l1)),D.str { data:={ toList:=u1 } },D.list (prDs (Pr.subs (Pr.mk o1 nm1 n1 m1 u1 l1)))]),6 = 6,(0:Int) ≤ k∧k < (↑(List.length (prDs r)):Int),(prDs r)[Int.toNat k]? = some (D.agg [D.int IntKind.i64 (Pr.op (Pr.mk o1 nm1 n1 m1 u1 l1)),D.str { data:={ toList:=nm1 } },D.int IntKind.i64 (Pr.n (Pr.mk o1 nm1 n1 m1 u1 l1)),D.int IntKind.i64 (Pr.m (Pr.mk o1 nm1 n1 m1 u1 l1)),D.str { data:={ toList:=u1 } },D.list (prDs (Pr.subs (Pr.mk o1 nm1 n1 m1 u1 l1)))]),6 = 6,(0:Int) ≤ k∧k < (↑(List.length (prDs r)):Int),(prDs r)[Int.toNat k]? = some (D.agg [D.int IntKind.i64 (Pr.op (Pr.mk o1 nm1 n1 m1 u1 l1)),D.str { data:={ toList:=nm1 } },D.int IntKind.i64 (Pr.n (Pr.mk o1 nm1 n1 m1 u1 l1)),D.int IntKind.i64 (Pr.m (Pr.mk o1 nm1 n1 m1 u1 l1)),D.str { data:={ toList:=u1 } },D.list (prDs (Pr.subs (Pr.mk o1 nm1 n1 m1 u1 l1)))]),6 = 6,(0:Int) ≤ k∧k < (↑(List.length (prDs r)):Int),(prDs r)[Int.toNat k]? = some (D.agg [D.int IntKind.i64 (Pr.op (Pr.mk o1 nm1 n1 m1 u1 l1)),D.str { data:={ toList:=nm1 } },D.int IntKind.i64 (Pr.n (Pr.mk o1 nm1 n1 m1 u1 l1)),D.int IntKind.i64 (Pr.m (Pr.mk o1 nm1 n1 m1 u1 l1)),D.str { data:={ toList:=u1 } },D.list (prDs (Pr.subs (Pr.mk o1 nm1 n1 m1 u1 l1)))]),6 = 6,1 = 1∧1 = 1∧4 ≤ 4,0 < 1∧4 ≠ 0∧1 = 1∧1 = 1∧0 + List.length (ints ns) ≤ List.length (ints ns)∧¬List.length (ints ns) + 4 ≤ List.length (ints ns)∧2 * (List.length (ints ns) + 4) * 8 ≤ 281474976710656∧List.length (ints ns) + 4 ≤ 4611686018427387904,(0:Int) ≤ k∧k < (↑(List.length (prDs r)):Int),(prDs r)[Int.toNat k]? = some (D.agg [D.int IntKind.i64 (Pr.op (Pr.mk o1 nm1 n1 m1 u1 l1)),D.str { data:={ toList:=nm1 } },D.int IntKind.i64 (Pr.n (Pr.mk o1 nm1 n1 m1 u1 l1)),D.int IntKind.i64 (Pr.m (Pr.mk o1 nm1 n1 m1 u1 l1)),D.str { data:={ toList:=u1 } },D.list (prDs (Pr.subs (Pr.mk o1 nm1 n1 m1 u1 l1)))]),6 = 6,(0:Int) ≤ k∧k < (↑(List.length (prDs r)):Int),(prDs r)[Int.toNat k]? = some (D.agg [D.int IntKind.i64 (Pr.op (Pr.mk o1 nm1 n1 m1 u1 l1)),D.str { data:={ toList:=nm1 } },D.int IntKind.i64 (Pr.n (Pr.mk o1 nm1 n1 m1 u1 l1)),D.int IntKind.i64 (Pr.m (Pr.mk o1 nm1 n1 m1 u1 l1)),D.str { data:={ toList:=u1 } },D.list (prDs (Pr.subs (Pr.mk o1 nm1 n1 m1 u1 l1)))]),6 = 6,1 = 1∧1 = 1∧2 ≤ 2,0 < 1∧2 ≠ 0∧64 ≤ 281474976710656∧2 ≤ 4611686018427387904,inInt (k + (1:Int))]) (h:Ends (cE zeroP [] [] []) 0 (hd 11 td11 78 [(3,V.sl (0) (1) (0) (List.length (ints ns) + 4) (List.length (ints ns) + 4) false),(4,V.d (D.list (prDs r))),(5,V.sl (1) (1) (0) (2) (2) false),(6,I (k + (1:Int)))] [Slot.live (Row.dat (1) (List.take (List.length (ints ns)) (List.drop (0) (ints ns)) ++ [D.int IntKind.i64 (Pr.op (Pr.mk o1 nm1 n1 m1 u1 l1)),D.int IntKind.i64 (Pr.n (Pr.mk o1 nm1 n1 m1 u1 l1)),D.int IntKind.i64 (Pr.m (Pr.mk o1 nm1 n1 m1 u1 l1)),D.int IntKind.i64 (↑(List.length (prDs (Pr.subs (Pr.mk o1 nm1 n1 m1 u1 l1)))):Int)]) false),Slot.live (Row.dat (1) [D.str { data:={ toList:=nm1 } },D.str { data:={ toList:=u1 } }] false)]) Q):Ends (cE zeroP [] [] []) 0 (H11a ns r k true) Q :=
  Ends.turn (cE_ok zeroP [] [] []) (hints [(33,true)] [(37,fun _=>prC (.mk o1 nm1 n1 m1 u1 l1)),(42,fun _=>prC (.mk o1 nm1 n1 m1 u1 l1)),(47,fun _=>prC (.mk o1 nm1 n1 m1 u1 l1)),(52,fun _=>prC (.mk o1 nm1 n1 m1 u1 l1)),(61,fun _=>prC (.mk o1 nm1 n1 m1 u1 l1)),(66,fun _=>prC (.mk o1 nm1 n1 m1 u1 l1))] [] 1 false true) anyLoop 140 [24,
 37] [3,4,5,6] (by kernel_rfl) hp h
theorem rs_f {ns:List Int} {r:List Pr} {k o1 n1 m1:Int} {nm1 u1:Bs} {l1:List Pr} {Q:V→Aev.Rows→Prop} (hp:AllP [decide (k < (↑(List.length (prDs r)):Int)) = true,(0:Int) ≤ k∧k < (↑(List.length (prDs r)):Int),(prDs r)[Int.toNat k]? = some (D.agg [D.int IntKind.i64 (Pr.op (Pr.mk o1 nm1 n1 m1 u1 l1)),D.str { data:={ toList:=nm1 } },D.int IntKind.i64 (Pr.n (Pr.mk o1 nm1 n1 m1 u1 l1)),D.int IntKind.i64 (Pr.m (Pr.mk o1 nm1 n1 m1 u1 l1)),D.str { data:={ toList:=u1 } },D.list (prDs (Pr.subs (Pr.mk o1 nm1 n1 m1 u1 l1)))]),6 = 6,(0:Int) ≤ k∧k < (↑(List.length (prDs r)):Int),(prDs r)[Int.toNat k]? = some (D.agg [D.int IntKind.i64 (Pr.op (Pr.mk o1 nm1 n1 m1 u1 l1)),D.str { data:={ toList:=nm1 } },D.int IntKind.i64 (Pr.n (Pr.mk o1 nm1 n1 m1 u1 l1)),D.int IntKind.i64 (Pr.m (Pr.mk o1 nm1 n1 m1 u1 l1)),D.str { data:={ toList:=u1 } },D.list (prDs (Pr.subs (Pr.mk o1 nm1 n1 m1 u1 l1)))]),6 = 6,(0:Int) ≤ k∧k < (↑(List.length (prDs r)):Int),(prDs r)[Int.toNat k]? = some (D.agg [D.int IntKind.i64 (Pr.op (Pr.mk o1 nm1 n1 m1 u1 l1)),D.str { data:={ toList:=nm1 } },D.int IntKind.i64 (Pr.n (Pr.mk o1 nm1 n1 m1 u1 l1)),D.int IntKind.i64 (Pr.m (Pr.mk o1 nm1 n1 m1 u1 l1)),D.str { data:={ toList:=u1 } },D.list (prDs (Pr.subs (Pr.mk o1 nm1 n1 m1 u1 l1)))]),6 = 6,(0:Int) ≤ k∧k < (↑(List.length (prDs r)):Int),(prDs r)[Int.toNat k]? = some (D.agg [D.int IntKind.i64 (Pr.op (Pr.mk o1 nm1 n1 m1 u1 l1)),D.str { data:={ toList:=nm1 } },D.int IntKind.i64 (Pr.n (Pr.mk o1 nm1 n1 m1 u1 l1)),D.int IntKind.i64 (Pr.m (Pr.mk o1 nm1 n1 m1 u1 l1)),D.str { data:={ toList:=u1 } },D.list (prDs (Pr.subs (Pr.mk o1 nm1 n1 m1 u1 l1)))]),6 = 6,1 = 1∧1 = 1∧4 ≤ 4,0 < 1∧4 ≠ 0∧1 = 1∧1 = 1∧0 + List.length (ints ns) ≤ List.length (ints ns)∧¬List.length (ints ns) + 4 ≤ List.length (ints ns)∧2 * (List.length (ints ns) + 4) * 8 ≤ 281474976710656∧List.length (ints ns) + 4 ≤ 4611686018427387904,(0:Int) ≤ k∧k < (↑(List.length (prDs r)):Int),(prDs r)[Int.toNat k]? = some (D.agg [D.int IntKind.i64 (Pr.op (Pr.mk o1 nm1 n1 m1 u1 l1)),D.str { data:={ toList:=nm1 } },D.int IntKind.i64 (Pr.n (Pr.mk o1 nm1 n1 m1 u1 l1)),D.int IntKind.i64 (Pr.m (Pr.mk o1 nm1 n1 m1 u1 l1)),D.str { data:={ toList:=u1 } },D.list (prDs (Pr.subs (Pr.mk o1 nm1 n1 m1 u1 l1)))]),6 = 6,(0:Int) ≤ k∧k < (↑(List.length (prDs r)):Int),(prDs r)[Int.toNat k]? = some (D.agg [D.int IntKind.i64 (Pr.op (Pr.mk o1 nm1 n1 m1 u1 l1)),D.str { data:={ toList:=nm1 } },D.int IntKind.i64 (Pr.n (Pr.mk o1 nm1 n1 m1 u1 l1)),D.int IntKind.i64 (Pr.m (Pr.mk o1 nm1 n1 m1 u1 l1)),D.str { data:={ toList:=u1 } },D.list (prDs (Pr.subs (Pr.mk o1 nm1 n1 m1 u1 l1)))]),6 = 6,1 = 1∧1 = 1∧2 ≤ 2,0 < 1∧2 ≠ 0∧64 ≤ 281474976710656∧2 ≤ 4611686018427387904,inInt (k + (1:Int))]) (h:Ends (cE zeroP [] [] []) 0 (hd 11 td11 78 [(3,V.sl (0) (1) (0) (List.length (ints ns) + 4) (List.length (ints ns) + 4) false),(4,V.d (D.list (prDs r))),(5,V.sl (1) (1) (0) (2) (2) false),(6,I (k + (1:Int)))] [Slot.live (Row.dat (1) (List.take (List.length (ints ns)) (List.drop (0) (ints ns)) ++ [D.int IntKind.i64 (Pr.op (Pr.mk o1 nm1 n1 m1 u1 l1)),D.int IntKind.i64 (Pr.n (Pr.mk o1 nm1 n1 m1 u1 l1)),D.int IntKind.i64 (Pr.m (Pr.mk o1 nm1 n1 m1 u1 l1)),D.int IntKind.i64 (↑(List.length (prDs (Pr.subs (Pr.mk o1 nm1 n1 m1 u1 l1)))):Int)]) false),Slot.live (Row.dat (1) [D.str { data:={ toList:=nm1 } },D.str { data:={ toList:=u1 } }] false)]) Q):Ends (cE zeroP [] [] []) 0 (H11a ns r k false) Q :=
  Ends.turn (cE_ok zeroP [] [] []) (hints [(33,true)] [(37,fun _=>prC (.mk o1 nm1 n1 m1 u1 l1)),(42,fun _=>prC (.mk o1 nm1 n1 m1 u1 l1)),(47,fun _=>prC (.mk o1 nm1 n1 m1 u1 l1)),(52,fun _=>prC (.mk o1 nm1 n1 m1 u1 l1)),(61,fun _=>prC (.mk o1 nm1 n1 m1 u1 l1)),(66,fun _=>prC (.mk o1 nm1 n1 m1 u1 l1))] [] 1 false true) anyLoop 140 [24,
 37] [3,4,5,6] (by kernel_rfl) hp h
theorem rs_b {ts:List Bs} {ns:List Int} {r:List Pr} {k o1 n1 m1:Int} {nm1 u1:Bs} {l1:List Pr} {Q:V→Aev.Rows→Prop} (hp:AllP [decide (k < (↑(List.length (prDs r)):Int)) = true,(0:Int) ≤ k∧k < (↑(List.length (prDs r)):Int),(prDs r)[Int.toNat k]? = some (D.agg [D.int IntKind.i64 (Pr.op (Pr.mk o1 nm1 n1 m1 u1 l1)),D.str { data:={ toList:=nm1 } },D.int IntKind.i64 (Pr.n (Pr.mk o1 nm1 n1 m1 u1 l1)),D.int IntKind.i64 (Pr.m (Pr.mk o1 nm1 n1 m1 u1 l1)),D.str { data:={ toList:=u1 } },D.list (prDs (Pr.subs (Pr.mk o1 nm1 n1 m1 u1 l1)))]),6 = 6,(0:Int) ≤ k∧k < (↑(List.length (prDs r)):Int),(prDs r)[Int.toNat k]? = some (D.agg [D.int IntKind.i64 (Pr.op (Pr.mk o1 nm1 n1 m1 u1 l1)),D.str { data:={ toList:=nm1 } },D.int IntKind.i64 (Pr.n (Pr.mk o1 nm1 n1 m1 u1 l1)),D.int IntKind.i64 (Pr.m (Pr.mk o1 nm1 n1 m1 u1 l1)),D.str { data:={ toList:=u1 } },D.list (prDs (Pr.subs (Pr.mk o1 nm1 n1 m1 u1 l1)))]),6 = 6,(0:Int) ≤ k∧k < (↑(List.length (prDs r)):Int),(prDs r)[Int.toNat k]? = some (D.agg [D.int IntKind.i64 (Pr.op (Pr.mk o1 nm1 n1 m1 u1 l1)),D.str { data:={ toList:=nm1 } },D.int IntKind.i64 (Pr.n (Pr.mk o1 nm1 n1 m1 u1 l1)),D.int IntKind.i64 (Pr.m (Pr.mk o1 nm1 n1 m1 u1 l1)),D.str { data:={ toList:=u1 } },D.list (prDs (Pr.subs (Pr.mk o1 nm1 n1 m1 u1 l1)))]),6 = 6,(0:Int) ≤ k∧k < (↑(List.length (prDs r)):Int),(prDs r)[Int.toNat k]? = some (D.agg [D.int IntKind.i64 (Pr.op (Pr.mk o1 nm1 n1 m1 u1 l1)),D.str { data:={ toList:=nm1 } },D.int IntKind.i64 (Pr.n (Pr.mk o1 nm1 n1 m1 u1 l1)),D.int IntKind.i64 (Pr.m (Pr.mk o1 nm1 n1 m1 u1 l1)),D.str { data:={ toList:=u1 } },D.list (prDs (Pr.subs (Pr.mk o1 nm1 n1 m1 u1 l1)))]),6 = 6,1 = 1∧1 = 1∧4 ≤ 4,0 < 1∧4 ≠ 0∧1 = 1∧1 = 1∧0 + List.length (ints ns) ≤ List.length (ints ns)∧¬List.length (ints ns) + 4 ≤ List.length (ints ns)∧2 * (List.length (ints ns) + 4) * 8 ≤ 281474976710656∧List.length (ints ns) + 4 ≤ 4611686018427387904,(0:Int) ≤ k∧k < (↑(List.length (prDs r)):Int),(prDs r)[Int.toNat k]? = some (D.agg [D.int IntKind.i64 (Pr.op (Pr.mk o1 nm1 n1 m1 u1 l1)),D.str { data:={ toList:=nm1 } },D.int IntKind.i64 (Pr.n (Pr.mk o1 nm1 n1 m1 u1 l1)),D.int IntKind.i64 (Pr.m (Pr.mk o1 nm1 n1 m1 u1 l1)),D.str { data:={ toList:=u1 } },D.list (prDs (Pr.subs (Pr.mk o1 nm1 n1 m1 u1 l1)))]),6 = 6,(0:Int) ≤ k∧k < (↑(List.length (prDs r)):Int),(prDs r)[Int.toNat k]? = some (D.agg [D.int IntKind.i64 (Pr.op (Pr.mk o1 nm1 n1 m1 u1 l1)),D.str { data:={ toList:=nm1 } },D.int IntKind.i64 (Pr.n (Pr.mk o1 nm1 n1 m1 u1 l1)),D.int IntKind.i64 (Pr.m (Pr.mk o1 nm1 n1 m1 u1 l1)),D.str { data:={ toList:=u1 } },D.list (prDs (Pr.subs (Pr.mk o1 nm1 n1 m1 u1 l1)))]),6 = 6,1 = 1∧1 = 1∧2 ≤ 2,0 < 1∧2 ≠ 0∧1 = 1∧1 = 1∧0 + List.length (strs ts) ≤ List.length (strs ts)∧¬List.length (strs ts) + 2 ≤ List.length (strs ts)∧2 * (List.length (strs ts) + 2) * 16 ≤ 281474976710656∧List.length (strs ts) + 2 ≤ 4611686018427387904,inInt (k + (1:Int))]) (h:Ends (cE zeroP [] [] []) 0 (hd 11 td11 78 [(3,V.sl (0) (1) (0) (List.length (ints ns) + 4) (List.length (ints ns) + 4) false),(4,V.d (D.list (prDs r))),(5,V.sl (1) (1) (0) (List.length (strs ts) + 2) (List.length (strs ts) + 2) false),(6,I (k + (1:Int)))] [Slot.live (Row.dat (1) (List.take (List.length (ints ns)) (List.drop (0) (ints ns)) ++ [D.int IntKind.i64 (Pr.op (Pr.mk o1 nm1 n1 m1 u1 l1)),D.int IntKind.i64 (Pr.n (Pr.mk o1 nm1 n1 m1 u1 l1)),D.int IntKind.i64 (Pr.m (Pr.mk o1 nm1 n1 m1 u1 l1)),D.int IntKind.i64 (↑(List.length (prDs (Pr.subs (Pr.mk o1 nm1 n1 m1 u1 l1)))):Int)]) false),Slot.live (Row.dat (1) (List.take (List.length (strs ts)) (List.drop (0) (strs ts)) ++ [D.str { data:={ toList:=nm1 } },D.str { data:={ toList:=u1 } }]) false)]) Q):Ends (cE zeroP [] [] []) 0 (H11b ns ts r k) Q :=
  Ends.turn (cE_ok zeroP [] [] []) (hints [(33,true)] [(37,fun _=>prC (.mk o1 nm1 n1 m1 u1 l1)),(42,fun _=>prC (.mk o1 nm1 n1 m1 u1 l1)),(47,fun _=>prC (.mk o1 nm1 n1 m1 u1 l1)),(52,fun _=>prC (.mk o1 nm1 n1 m1 u1 l1)),(61,fun _=>prC (.mk o1 nm1 n1 m1 u1 l1)),(66,fun _=>prC (.mk o1 nm1 n1 m1 u1 l1))] [] 1 false true) anyLoop 140 [25,
 38] [3,4,5,6] (by kernel_rfl) hp h
theorem rs_e {ts:List Bs} {ns:List Int} {r:List Pr} {k:Int} {bI bS:Bs} {Q:V→Aev.Rows→Prop} (hp:AllP [decide (k < (↑(List.length (prDs r)):Int)) = false,List.length (ints ns) = List.length (ints ns),isI (ints ns),fits (List.length (ints ns)),all64 (ints ns),eiIs (List.map M44.unI (ints ns)) bI,List.length (strs ts) = List.length (strs ts),isS (strs ts),fits (List.length (strs ts)),allSm (strs ts),esIs (List.map unS (strs ts)) bS,small bS.length,1 = 1∧1 = 1∧0 + List.length bS ≤ List.length (bytesL bS),0 < 1∧List.length (List.take bS.length (List.drop (0) (bytesL bS))) ≠ 0∧1 = 1∧1 = 1∧0 + List.length bI ≤ List.length (bytesL bI)∧¬List.length bI + List.length (List.take bS.length (List.drop (0) (bytesL bS))) ≤ List.length bI∧2 * (List.length bI + List.length (List.take bS.length (List.drop (0) (bytesL bS)))) * 1 ≤ 281474976710656∧List.length bI + List.length (List.take bS.length (List.drop (0) (bytesL bS))) ≤ 4611686018427387904]) (h:Q (V.sl (4) (1) (0) (List.length bI + List.length (List.take bS.length (List.drop (0) (bytesL bS)))) (List.length bI + List.length (List.take bS.length (List.drop (0) (bytesL bS)))) false) ([Slot.live (Row.dat (1) (ints ns) true),Slot.live (Row.dat (1) (strs ts) true),Slot.dead,Slot.live (Row.dat (1) (bytesL bS) false),Slot.live (Row.dat (1) (List.take bI.length (List.drop (0) (bytesL bI)) ++ List.take bS.length (List.drop (0) (bytesL bS))) false)])):Ends (cE zeroP [] bI bS) 0 (H11b ns ts r k) Q :=
 Ends.toFin (cE_ok zeroP [] bI bS) (hints [(33,false)] [] [] 1 false true) anyLoop 140 (by kernel_rfl) hp h
end Go.Aev.M44
end
section
namespace Go.Aev.M44
set_option maxRecDepth 1000000
open Go Go.Aev
def hdN (q:Qy):List Int:=[q.k,q.w,q.d,q.c,q.g,(q.vec.length:Int)] ++ q.vec
def encQ (q:Qy) (r:List Pr):Bs:=eInts (hdN q ++ nums r) ++ eStrs (txts r)
theorem eInts_len {l:List Int} (h:∀ x ∈ l,in64 x) (hl:fits l.length):(eInts l).length ≤ 10 * l.length + 10:=by
 have h1:∀ l:List Int,(∀ x ∈ l,in64 x)→(l.flatMap enc).length ≤ 10 * l.length:=by
  intro l
  induction l with
  | nil=>intro _; simp
  | cons x r ih =>
   intro h
   have:=ih (fun y hy=>h y (List.mem_cons_of_mem _ hy))
   have:=enc_len10 (h x (by simp))
   simp only [List.flatMap_cons,List.length_append,List.length_cons]
   omega
 unfold fits at hl
 have h2:=enc_len10 (show in64 (l.length:Int) by unfold in64; omega)
 have h3:=h1 l h
 unfold eInts
 rw [List.length_append]
 omega
theorem eStrs_pos (l:List Bs):1 ≤ (eStrs l).length:=by
 have:=enc_pos (l.length:Int)
 unfold eStrs
 rw [List.length_append]; omega
theorem ints_app (a b:List Int):ints (a ++ b) = ints a ++ ints b:=by simp [ints]
theorem strs_app (a b:List Bs):strs (a ++ b) = strs a ++ strs b:=by simp [strs]
theorem re_end {ns:List Int} {ts:List Bs} {r:List Pr} {k:Nat} {bI bS:Bs} (hk:r.length ≤ k) (h1:fits ns.length) (h2:∀ x ∈ ns,in64 x) (h3:fits ts.length) (h4:∀ x ∈ ts,small x.length) (hI:eInts ns = bI) (hS:eStrs ts = bS) (h5:small bS.length) :
  Ends (cE zeroP [] bI bS) 0 (H11b ns ts r (k:Int)) (fun v rows=>convV (liveAt rows) v = some (LB (bI ++ bS))):=by
 have er:=prDs_len r
 have eb:=bytesL_len bS
 have ei:=bytesL_len bI
 have h1':=h1
 unfold fits at h1'
 have h5':=h5
 unfold small at h5'
 have pS:1 ≤ bS.length:=by rw [← hS]; exact eStrs_pos ts
 have pI:bI.length ≤ 10 * ns.length + 10:=by rw [← hI]; exact eInts_len h2 h1
 have tS:List.take bS.length (List.drop 0 (bytesL bS)) = bytesL bS:=take_all
 have tI:List.take bI.length (List.drop 0 (bytesL bI)) = bytesL bI:=take_all
 refine rs_e ⟨decide_eq_false (by omega),rfl,isI_ints _,by rw [ints_len]; exact h1,by unfold all64; rw [unI_ints]; exact h2,by unfold eiIs; rw [unI_ints]; exact hI,rfl,isS_strs _,by rw [strs_len]; exact h3,by unfold allSm; rw [unS_strs]; exact h4,by unfold esIs; rw [unS_strs]; exact hS,h5,
  ⟨rfl,rfl,by omega⟩,by rw [tS]; refine ⟨by omega,by omega,rfl,rfl,by omega,by omega,by omega,by omega⟩,trivial⟩ ?_
 rw [tS,tI]
 have:=conv_slk (rows:=[Slot.live (Row.dat (1) (ints ns) true),Slot.live (Row.dat (1) (strs ts) true),Slot.dead,Slot.live (Row.dat (1) (bytesL bS) false),Slot.live (Row.dat (1) (bytesL bI ++ bytesL bS) false)]) (r:=4) (n:=bI.length + (bytesL bS).length) (c:=bI.length + (bytesL bS).length) (k:=1) (es:=bytesL bI ++ bytesL bS) (ex:=false) rfl (by rw [List.length_append]; omega)
 rw [List.take_of_length_le (by rw [List.length_append]; omega)] at this
 have eL:LB (bI ++ bS) = .d (.list (bytesL bI ++ bytesL bS)):=by rw [LB,bytesL_append]
 rw [eL]
 exact this
theorem num_step {ns:List Int} {o1 n1 m1:Int} {nm1 u1:Bs} {l1:List Pr}:List.take (ints ns).length (List.drop 0 (ints ns)) ++ [D.int IntKind.i64 o1,D.int IntKind.i64 n1,D.int IntKind.i64 m1,D.int IntKind.i64 ((prDs l1).length:Int)] = ints (ns ++ num1 (.mk o1 nm1 n1 m1 u1 l1)):=by
 rw [List.drop_zero,List.take_length,ints_app,prDs_len]; rfl
theorem txt_step {ts:List Bs} {o1 n1 m1:Int} {nm1 u1:Bs} {l1:List Pr}:List.take (strs ts).length (List.drop 0 (strs ts)) ++ [strD nm1,strD u1] = strs (ts ++ txt1 (.mk o1 nm1 n1 m1 u1 l1)):=by
 rw [List.drop_zero,List.take_length,strs_app]; rfl
theorem re_loop {r:List Pr} {bI bS:Bs} (hr:r.length ≤ 1000):∀ (j k:Nat) (ns:List Int) (ts:List Bs),k + j = r.length→ns.length ≤ 1000000 + 4 * k→ts.length ≤ 2 * k→(∀ x ∈ ns ++ nums (r.drop k),in64 x)→(∀ x ∈ ts ++ txts (r.drop k),small x.length) →
  eInts (ns ++ nums (r.drop k)) = bI→eStrs (ts ++ txts (r.drop k)) = bS→small bS.length →
  Ends (cE zeroP [] bI bS) 0 (H11b ns ts r (k:Int)) (fun v rows=>convV (liveAt rows) v = some (LB (bI ++ bS))):=by
 have er:=prDs_len r
 intro j
 induction j with
 | zero =>
  intro k ns ts hk hn ht h1 h2 hI hS h5
  rw [List.drop_of_length_le (by omega)] at h1 h2 hI hS
  simp only [nums,txts,List.flatMap_nil,List.append_nil] at h1 h2 hI hS
  exact re_end (by omega) (by unfold fits; omega) h1 (by unfold fits; omega) h2 hI hS h5
 | succ j ih =>
  intro k ns ts hk hn ht h1 h2 hI hS h5
  have hkl:k < r.length:=by omega
  have en:=ints_len ns
  have et:=strs_len ts
  have hget:=prDs_get hkl
  unfold elP at hget
  rw [drop_cons hkl zeroP] at h1 h2 hI hS
  cases hp:r.getD k zeroP with
  | mk o1 nm1 n1 m1 u1 l1 =>
   rw [hp] at hget h1 h2 hI hS
   have e1:nums (Pr.mk o1 nm1 n1 m1 u1 l1 :: r.drop (k + 1)) = num1 (.mk o1 nm1 n1 m1 u1 l1) ++ nums (r.drop (k + 1)):=by simp [nums]
   have e2:txts (Pr.mk o1 nm1 n1 m1 u1 l1 :: r.drop (k + 1)) = txt1 (.mk o1 nm1 n1 m1 u1 l1) ++ txts (r.drop (k + 1)):=by simp [txts]
   rw [e1,← List.append_assoc] at h1 hI
   rw [e2,← List.append_assoc] at h2 hS
   have next:=ih (k + 1) (ns ++ num1 (.mk o1 nm1 n1 m1 u1 l1)) (ts ++ txt1 (.mk o1 nm1 n1 m1 u1 l1)) (by omega) (by rw [List.length_append]; simp [num1]; omega) (by rw [List.length_append]; simp [txt1]; omega) h1 h2 hI hS h5
   have hd1:decide ((k:Int) < ((prDs r).length:Int)) = true:=decide_eq_true (by omega)
   have rng:(0:Int) ≤ (k:Int)∧(k:Int) < ((prDs r).length:Int):=by omega
   have get:(prDs r)[Int.toNat (k:Int)]? = some (prC (.mk o1 nm1 n1 m1 u1 l1)):=by rw [Int.toNat_natCast]; exact hget
   have hi:inInt ((k:Int) + (1:Int)):=by unfold inInt; omega
   refine Ends.cfg (c:=cE zeroP [] [] []) rfl ?_
   have next:=Ends.cfg (c':=cE zeroP [] [] []) rfl next
   refine rs_b ⟨hd1,rng,get,rfl,rng,get,rfl,rng,get,rfl,rng,get,rfl,⟨rfl,rfl,by omega⟩,⟨by omega,by omega,rfl,rfl,by omega,by omega,by omega,by omega⟩,rng,get,rfl,rng,get,rfl,⟨rfl,rfl,by omega⟩,⟨by omega,by omega,rfl,rfl,by omega,by omega,by omega,by omega⟩,hi,trivial⟩ ?_
   have l1':(ints (ns ++ num1 (.mk o1 nm1 n1 m1 u1 l1))).length = (ints ns).length + 4:=by rw [ints_len,List.length_append,en]; rfl
   have l2':(strs (ts ++ txt1 (.mk o1 nm1 n1 m1 u1 l1))).length = (strs ts).length + 2:=by rw [strs_len,List.length_append,et]; rfl
   unfold H11b at next
   rw [l1',l2',← num_step,← txt_step] at next
   exact next
theorem re_first {r:List Pr} {bI bS:Bs} {ns:List Int} {ex:Bool} (hr:r.length ≤ 1000) (hr1:1 ≤ r.length) (hn:ns.length ≤ 1000000) (h1:∀ x ∈ ns ++ nums r,in64 x) (h2:∀ x ∈ txts r,small x.length)
  (hI:eInts (ns ++ nums r) = bI) (hS:eStrs (txts r) = bS) (h5:small bS.length) :
  Ends (cE zeroP [] bI bS) 0 (H11a ns r 0 ex) (fun v rows=>convV (liveAt rows) v = some (LB (bI ++ bS))):=by
 have er:=prDs_len r
 have en:=ints_len ns
 match r,hr1 with
 | .mk o1 nm1 n1 m1 u1 l1 :: r,_ =>
  have hd1:decide ((0:Int) < ((prDs (Pr.mk o1 nm1 n1 m1 u1 l1 :: r)).length:Int)) = true:=decide_eq_true (by simp at er; omega)
  have rng:(0:Int) ≤ (0:Int)∧(0:Int) < ((prDs (Pr.mk o1 nm1 n1 m1 u1 l1 :: r)).length:Int):=by simp at er; omega
  have get:(prDs (Pr.mk o1 nm1 n1 m1 u1 l1 :: r))[Int.toNat (0:Int)]? = some (prC (.mk o1 nm1 n1 m1 u1 l1)):=rfl
  have hi:inInt ((0:Int) + (1:Int)):=by unfold inInt; omega
  have e1:nums (Pr.mk o1 nm1 n1 m1 u1 l1 :: r) = num1 (.mk o1 nm1 n1 m1 u1 l1) ++ nums r:=by simp [nums]
  have e2:txts (Pr.mk o1 nm1 n1 m1 u1 l1 :: r) = txt1 (.mk o1 nm1 n1 m1 u1 l1) ++ txts r:=by simp [txts]
  have d1:(Pr.mk o1 nm1 n1 m1 u1 l1 :: r).drop 1 = r:=rfl
  have next:=re_loop (bI:=bI) (bS:=bS) hr r.length 1 (ns ++ num1 (.mk o1 nm1 n1 m1 u1 l1)) (txt1 (.mk o1 nm1 n1 m1 u1 l1)) (by simp; omega) (by rw [List.length_append]; simp [num1]; omega) (by simp [txt1])
   (by rw [d1,List.append_assoc,← e1]; exact h1) (by rw [d1,← e2]; exact h2) (by rw [d1,List.append_assoc,← e1]; exact hI) (by rw [d1,← e2]; exact hS) h5
  refine Ends.cfg (c:=cE zeroP [] [] []) rfl ?_
  have next:=Ends.cfg (c':=cE zeroP [] [] []) rfl next
  have l1':(ints (ns ++ num1 (.mk o1 nm1 n1 m1 u1 l1))).length = (ints ns).length + 4:=by rw [ints_len,List.length_append,en]; rfl
  unfold H11b at next
  rw [l1',← num_step] at next
  cases ex with
  | true=>exact rs_t ⟨hd1,rng,get,rfl,rng,get,rfl,rng,get,rfl,rng,get,rfl,⟨rfl,rfl,by omega⟩,⟨by omega,by omega,rfl,rfl,by omega,by omega,by omega,by omega⟩,rng,get,rfl,rng,get,rfl,⟨rfl,rfl,by omega⟩,⟨by omega,by omega,by omega,by omega⟩,hi,trivial⟩ next
  | false=>exact rs_f ⟨hd1,rng,get,rfl,rng,get,rfl,rng,get,rfl,rng,get,rfl,⟨rfl,rfl,by omega⟩,⟨by omega,by omega,rfl,rfl,by omega,by omega,by omega,by omega⟩,rng,get,rfl,rng,get,rfl,⟨rfl,rfl,by omega⟩,⟨by omega,by omega,by omega,by omega⟩,hi,trivial⟩ next
structure QOK (q:Qy) (r:List Pr):Prop where
 vec:q.vec.length ≤ 900000
 num:∀ x ∈ hdN q ++ nums r,in64 x
 txt:∀ x ∈ txts r,small x.length
 siz:small (eStrs (txts r)).length
theorem ref_enc {q:Qy} (h:QOK q (ptC q.p)):RCs PP 11 [.d (.agg (qC q))] [] (LB (encQ q (ptC q.p))):=by
 obtain ⟨vec,k,w,d,c,g,p⟩:=q
 obtain ⟨o,nm,n,m,u,l⟩:=p
 have hv:=h.vec
 simp only at hv
 have hlen:(hdN ⟨vec,k,w,d,c,g,.mk o nm n m u l⟩).length ≤ 1000000:=by unfold hdN; simp; omega
 have ev:=ints_len vec
 refine rcs_of (cE_ok (.mk o nm n m u l) (ptC (.mk o nm n m u l)) [] []) (by kernel_rfl) ?_
 have fst:=fun (ex:Bool)=>re_first (ex:=ex) (ptC_len (.mk o nm n m u l)) (ptC_pos (.mk o nm n m u l)) hlen h.num h.txt rfl rfl h.siz
 have hi:ints (hdN ⟨vec,k,w,d,c,g,.mk o nm n m u l⟩) = D.int IntKind.i64 k :: D.int IntKind.i64 w :: D.int IntKind.i64 d :: D.int IntKind.i64 c :: D.int IntKind.i64 g :: D.int IntKind.i64 ((ints vec).length:Int) :: ints vec:=by rw [ev]; rfl
 cases vec with
 | nil =>
  refine re_z ⟨rfl,⟨by omega,rfl⟩,rfl,rfl,trivial⟩ ?_
  exact Ends.cfg rfl (fst true)
 | cons x vs =>
  have ev':(ints (x :: vs)).length = vs.length + 1:=by rw [ints_len]; rfl
  have hv':vs.length + 1 ≤ 900000:=hv
  refine re_a ⟨ints_all1 _,⟨by omega,by rw [ev']; omega,rfl,rfl,by omega,by rw [ev']; omega,by rw [ev']; omega,by rw [ev']; omega⟩,rfl,rfl,trivial⟩ ?_
  have f:=fst false
  unfold H11a at f
  rw [hi] at f
  have hl:(D.int IntKind.i64 k :: D.int IntKind.i64 w :: D.int IntKind.i64 d :: D.int IntKind.i64 c :: D.int IntKind.i64 g :: D.int IntKind.i64 ((ints (x :: vs)).length:Int) :: ints (x :: vs)).length = 6 + (ints (x :: vs)).length:=by simp; omega
  rw [hl] at f
  exact Ends.cfg rfl f
end Go.Aev.M44
end
section
namespace Go.Aev
variable [Glob]
variable {w0:World} {own:Own} {m:Mp} {S:Nat→Prop} {w:World} {rows:Rows}
def bkN (rs:List Nat) (base:Nat) (j:Nat):Option Nat:=if j < rs.length then rs[j]? else some (base + (j - rs.length))
def slotBk (rs:List Nat) (base:Nat):Slot→Option Slot
 | .live row=>match moveRow (bkN rs base) (some row) with
  | some (.live row')=>some (.live row')
  | _=>none
 | _=>some .dead
def backN (rs:List Nat) (rows rows2:Rows):Option Rows :=
 (mapO (slotBk rs rows.length) rows2).map fun sl=>setRows (rs.zip (sl.take rs.length)) rows ++ sl.drop rs.length
def mpN (rs:List Nat) (base:Nat) (m m':Mp):Mp:=fun r=>if r < base then m r else m' (r - base + rs.length)
theorem slotBk_cases {rs:List Nat} {base:Nat} {y x:Slot} (h:slotBk rs base y = some x) :
  (∃ row row',y = Slot.live row∧moveRow (bkN rs base) (some row) = some (Slot.live row')∧x = Slot.live row') ∨ ((∀ row,y ≠ Slot.live row)∧x = Slot.dead):=by
 unfold slotBk at h
 split at h
 ·rename_i row
  split at h
  ·rename_i row' hm
   cases h
   exact .inl ⟨row,row',rfl,hm,rfl⟩
  ·cases h
 ·rename_i hne
  cases h
  exact .inr ⟨fun row e=>hne row e,rfl⟩
theorem zip_set {rs:List Nat} {l:List Slot} (hnd:∀ (a b r:Nat),rs[a]? = some r→rs[b]? = some r→a = b) (hl:l.length = rs.length) (q:Nat) (hq:q < rows.length) :
  ((∀ j:Nat,rs[j]? ≠ some q)∧(setRows (rs.zip l) rows)[q]? = rows[q]?) ∨ ∃ (j:Nat) (y:Slot),rs[j]? = some q∧l[j]? = some y∧(setRows (rs.zip l) rows)[q]? = some y:=by
 by_cases hm:∃ j:Nat,rs[j]? = some q
 ·obtain ⟨j,hj⟩:=hm
  right
  have hjl:j < l.length:=by rw [hl]; exact lt_of_get hj
  have hly:l[j]? = some l[j]:=List.getElem?_eq_getElem hjl
  refine ⟨j,l[j],hj,hly,setRows_mem (fun u hu e=>?_) (.inl ⟨(q,l[j]),?_,rfl⟩) hq⟩
  ·obtain ⟨i,hi⟩:=List.getElem?_of_mem hu
   obtain ⟨h1,h2⟩:=List.getElem?_zip_eq_some.1 hi
   rw [e] at h1
   have:=hnd i j q h1 hj
   subst this
   rw [hly] at h2
   injection h2 with h2
   exact h2.symm
  ·exact List.mem_of_getElem? (List.getElem?_zip_eq_some.2 ⟨hj,hly⟩:(rs.zip l)[j]? = some (q,l[j]))
 ·left
  refine ⟨fun j e=>hm ⟨j,e⟩,setRows_get fun hmem=>?_⟩
  obtain ⟨u,hu,e⟩:=List.mem_map.1 hmem
  obtain ⟨i,hi⟩:=List.getElem?_of_mem hu
  obtain ⟨h1,_⟩:=List.getElem?_zip_eq_some.1 hi
  rw [e] at h1
  exact hm ⟨i,h1⟩
theorem backN_inv (inv:Inv w0 own m S w rows) {rs:List Nat} {rowsC rows2 rows3:Rows} (hrs:rs.eraseDups.length = rs.length)
  (h:mapO (fun r=>moveRow (fun r=>idxIn r rs 0) (liveAt rows r)) rs = some rowsC) (hlive:rowsC.all slotLive = true) {m':Mp} {S':Nat→Prop} {w':World}
  (i2:Inv w (callOwn m S rows rs) m' S' w' rows2) (hm':∀ r,r < rs.length→∀ p,renM m rs r = some p→m' r = some p) (hsz:∀ b,bsize w b ≤ bsize w' b) (hb:backN rs rows rows2 = some rows3) :
  Inv w0 own (mpN rs rows.length m m') S' w' rows3∧Ext m S w (mpN rs rows.length m m') S' w'∧∀ j r,bkN rs rows.length j = some r→mpN rs rows.length m m' r = m' j:=by
 have hnd:=eraseDups_nodup hrs
 have hlen:=mapO_len h
 -- the reached rows were live
 have old:∀ j r,rs[j]? = some r→∃ row b o,rows[r]? = some (Slot.live row)∧m r = some (b,o)∧m' j = some (b,o):=by
  intro j r hr
  have hj:=lt_of_get hr
  have hjc:j < rowsC.length:=by omega
  have hlv:=(List.all_eq_true.1 hlive) rowsC[j] (List.getElem_mem hjc)
  obtain ⟨r2,hr2,hren⟩:=mapO_get h (List.getElem?_eq_getElem hjc)
  rw [hr] at hr2; cases hr2
  cases hl:liveAt rows r with
  | none=>rw [hl] at hren; simp only [moveRow] at hren; injection hren with he; rw [← he] at hlv; cases hlv
  | some row =>
   have hrow:=liveAt_look hl
   obtain ⟨b,o,hm,_⟩:=inv.row r row hrow
   exact ⟨row,b,o,hrow,hm,hm' j hj (b,o) (by simp [renM,hr,hm])⟩
 have hback0:∀ j r,rs[j]? = some r→m r = m' j:=by
  intro j r hr
  obtain ⟨row,b,o,_,h1,h2⟩:=old j r hr
  rw [h1,h2]
 have hbnd:∀ (a r:Nat),rs[a]? = some r→r < rows.length:=fun a r hr=>by
  obtain ⟨row,_,_,h1,_⟩:=old a r hr
  exact lt_of_get h1
 have mlt:∀ r,r < rows.length→mpN rs rows.length m m' r = m r:=fun r hr=>if_pos hr
 have mge:∀ t,mpN rs rows.length m m' (rows.length + t) = m' (rs.length + t):=fun t=>by
  unfold mpN
  rw [if_neg (by omega)]
  congr 1; omega
 have hback:∀ j r,bkN rs rows.length j = some r→mpN rs rows.length m m' r = m' j:=by
  intro j r hr
  unfold bkN at hr
  split at hr
  ·rw [mlt r (hbnd j r hr)]; exact hback0 j r hr
  ·injection hr with hr
   subst hr
   rw [mge]; congr 1; omega
 have mget:∀ {r:Nat} {p:Nat × Nat},m r = some p→r < rows.length:=fun {r p} e=>by
  rcases Nat.lt_or_ge r rows.length with h1 | h1
  ·exact h1
  ·rw [inv.none r h1] at e; cases e
 unfold backN at hb
 rw [Option.map_eq_some_iff] at hb
 obtain ⟨sl,hsl,hb⟩:=hb
 subst hb
 have hsll:=mapO_len hsl
 -- own blocks are among those that the caller may write
 have ownOK:∀ b,(callOwn m S rows rs) b→w0.heap.size ≤ b ∨ own b:=fun b ⟨r,row,o,_,h1,h2,h3⟩=>inv.new r row b o h1 h2 h3
 have ownS:∀ b,(callOwn m S rows rs) b→¬ S b:=fun b ⟨r,row,o,_,h1,h2,h3⟩=>inv.stab r row b o h1 h2 h3
 have heapS:∀ b,b < w.heap.size→¬ (callOwn m S rows rs) b→w'.heap[b]? = w.heap[b]?:=i2.kept
 have ext:Ext m S w (mpN rs rows.length m m') S' w':=⟨fun r p e=>by rw [mlt r (mget e)]; exact e,fun b hb=>i2.stb b hb,fun b hb=>heapS b (inv.sbnd b hb) (fun hc=>ownS b hc hb),hsz⟩
 have full:rs.length ≤ rows2.length:=by
  rcases Nat.lt_or_ge rows2.length rs.length with h1 | h1
  ·obtain ⟨_,b,o,_,_,h3⟩:=old rows2.length rs[rows2.length] (List.getElem?_eq_getElem h1)
   rw [i2.none _ (Nat.le_refl _)] at h3; cases h3
  ·exact h1
 have hlen3:(setRows (rs.zip (sl.take rs.length)) rows ++ sl.drop rs.length).length = rows.length + (rows2.length - rs.length):=by
  rw [List.length_append,setRows_len,List.length_drop,hsll]
 have cases3:∀ (q:Nat) (x:Slot),(setRows (rs.zip (sl.take rs.length)) rows ++ sl.drop rs.length)[q]? = some x→(rows[q]? = some x∧q < rows.length∧∀ (j:Nat),rs[j]? ≠ some q) ∨
   ∃ (j:Nat) (y:Slot),bkN rs rows.length j = some q∧rows2[j]? = some y∧((∃ row row',y = Slot.live row∧moveRow (bkN rs rows.length) (some row) = some (Slot.live row')∧x = Slot.live row') ∨ ((∀ row,y ≠ Slot.live row)∧x = Slot.dead)):=by
  intro q x hx
  rcases Nat.lt_or_ge q rows.length with hq | hq
  ·rw [List.getElem?_append_left (by rw [setRows_len]; exact hq)] at hx
   rcases zip_set (l:=sl.take rs.length) hnd (by rw [List.length_take,hsll]; omega) q hq with ⟨h1,h2⟩ | ⟨j,y,h1,h2,h3⟩
   ·left
    rw [h2] at hx
    exact ⟨hx,hq,h1⟩
   ·right
    rw [h3] at hx
    cases hx
    have hj:=lt_of_get h1
    rw [List.getElem?_take_of_lt hj] at h2
    obtain ⟨z,hz,hs⟩:=mapO_get hsl h2
    exact ⟨j,z,by unfold bkN; rw [if_pos hj]; exact h1,hz,slotBk_cases hs⟩
  ·right
   rw [List.getElem?_append_right (by rw [setRows_len]; exact hq),setRows_len,List.getElem?_drop] at hx
   obtain ⟨z,hz,hs⟩:=mapO_get hsl hx
   refine ⟨rs.length + (q - rows.length),z,?_,hz,slotBk_cases hs⟩
   unfold bkN
   rw [if_neg (by omega)]
   congr 1; omega
 -- a block of a row that was not reached is not the call's own
 have notOwn:∀ q row b o,rows[q]? = some (Slot.live row)→m q = some (b,o)→(∀ j,j < rs.length→rs[j]? ≠ some q)→¬ (callOwn m S rows rs) b:=by
  intro q row b o hq hm hn ⟨r,row2,o2,hr,h1,h2,h3⟩
  obtain ⟨j,hj⟩:=List.getElem?_of_mem hr
  have hne:r ≠ q:=fun e=>hn j (lt_of_get hj) (by rw [hj,e])
  exact inv.apart r q row2 row b o2 b o hne h1 hq h2 h3 hm rfl
 have hmove:∀ (b o:Nat) (row row':Row),moveRow (bkN rs rows.length) (some row) = some (.live row')→RowRel m' S' w' b o row→RowRel (mpN rs rows.length m m') S' w' b o row'∧row'.rw = row.rw :=
  fun b o row row' h1 h2=>moveRow_by (fun r j hj=>hback r j hj) h1 h2
 have mbnd:∀ r b o,mpN rs rows.length m m' r = some (b,o)→b < w'.heap.size:=fun r b o hm=>by
  unfold mpN at hm
  split at hm
  ·exact Nat.lt_of_lt_of_le (inv.bnd r b o hm) i2.grow
  ·exact i2.bnd _ b o hm
 -- a row that was not reached lies in none of the call's blocks
 have apartN:∀ (r:Nat) (row:Row) (b o:Nat) (j:Nat) (row0:Row) (b' o':Nat),rows[r]? = some (Slot.live row)→(∀ (i:Nat),rs[i]? ≠ some r)→m r = some (b,o)→rows2[j]? = some (Slot.live row0)→m' j = some (b',o')→(row.rw = true ∨ row0.rw = true)→b ≠ b':=by
  intro r row b o j row0 b' o' h1 h2 h3 h4 h5 h6 e
  subst e
  have hlt:=inv.bnd r b o h3
  have hno:=notOwn r row b o h1 h3 (fun i _=>h2 i)
  cases hrw:row0.rw with
  | true =>
   rcases i2.new j row0 b o' h4 hrw h5 with h7 | h7
   ·omega
   ·exact hno h7
  | false =>
   have hs:=i2.rost j row0 b o' h4 hrw h5
   rcases i2.base b hs with h7 | h7 | h7
   ·rcases h6 with h6 | h6
    ·exact inv.stab r row b o h1 h6 h3 h7
    ·rw [hrw] at h6; cases h6
   ·omega
   ·exact hno h7
 refine ⟨⟨fun r hr=>?_,fun r hr=>?_,fun r row hr=>?_,mbnd,fun r row b o hr hw hm=>?_,
  fun r r' row row' b o b' o' hne hr hr' hw hm hmm=>?_,fun r row b o hr hw hm=>?_,fun r row b o hr hw hm=>?_,i2.sbnd,fun b hb=>?_,fun b hb=>i2.stb b (inv.stb b hb),i2.os.trans inv.os,i2.tape.trans inv.tape,
  i2.output.trans inv.output,Nat.le_trans inv.grow i2.grow,fun b hb hn=>?_,i2.glb⟩,ext,hback⟩
 ·rw [hlen3] at hr
  unfold mpN
  rw [if_neg (by omega)]
  exact i2.none _ (by omega)
 ·rcases cases3 r _ hr with ⟨h1,hq,_⟩ | ⟨j,y,_,_,⟨_,_,_,_,h5⟩ | ⟨_,h5⟩⟩
  ·rw [mlt r hq]; exact inv.fre r h1
  ·cases h5
  ·cases h5
 ·rcases cases3 r _ hr with ⟨h1,hq,h2⟩ | ⟨j,y,h1,h2,⟨row0,row',e1,e2,e3⟩ | ⟨_,h5⟩⟩
  ·obtain ⟨b,o,hm,hrel⟩:=inv.row r row h1
   exact ⟨b,o,by rw [mlt r hq]; exact hm,hrel.ext ext (heapS b (inv.bnd r b o hm) (notOwn r row b o h1 hm (fun j _=>h2 j)))⟩
  ·cases e3
   subst e1
   obtain ⟨b,o,hm,hrel⟩:=i2.row j row0 h2
   exact ⟨b,o,by rw [hback j r h1]; exact hm,(hmove b o row0 row e2 hrel).1⟩
  ·cases h5
 ·rcases cases3 r _ hr with ⟨h1,hq,_⟩ | ⟨j,y,h1,h2,⟨row0,row',e1,e2,e3⟩ | ⟨_,h5⟩⟩
  ·rw [mlt r hq] at hm; exact inv.new r row b o h1 hw hm
  ·cases e3
   subst e1
   obtain ⟨b1,o1,hm1,hrel⟩:=i2.row j row0 h2
   have hrw:=(hmove b1 o1 row0 row e2 hrel).2
   rcases i2.new j row0 b o h2 (by rw [← hrw]; exact hw) (by rw [← hback j r h1]; exact hm) with h3 | h3
   ·exact .inl (Nat.le_trans inv.grow h3)
   ·exact ownOK b h3
  ·cases h5
 ·have rwOf:∀ (r:Nat) (row:Row),(setRows (rs.zip (sl.take rs.length)) rows ++ sl.drop rs.length)[r]? = some (Slot.live row)→(rows[r]? = some (Slot.live row)∧r < rows.length∧∀ (j:Nat),rs[j]? ≠ some r) ∨ ∃ (j:Nat) (row0:Row),bkN rs rows.length j = some r∧rows2[j]? = some (Slot.live row0)∧row0.rw = row.rw:=by
   intro r row hr
   rcases cases3 r _ hr with h1 | ⟨j,y,h1,h2,⟨row0,row',e1,e2,e3⟩ | ⟨_,h5⟩⟩
   ·exact .inl h1
   ·cases e3
    subst e1
    obtain ⟨b1,o1,hm1,hrel⟩:=i2.row j row0 h2
    exact .inr ⟨j,row0,h1,h2,(hmove b1 o1 row0 row e2 hrel).2.symm⟩
   ·cases h5
  rcases rwOf r row hr with ⟨a1,aq,a2⟩ | ⟨j,row0,a1,a2,a3⟩ <;> rcases rwOf r' row' hr' with ⟨c1,cq,c2⟩ | ⟨j',row1,c1,c2,c3⟩
  ·rw [mlt r aq] at hm; rw [mlt r' cq] at hmm
   exact inv.apart r r' row row' b o b' o' hne a1 c1 hw hm hmm
  ·rw [mlt r aq] at hm
   rw [hback j' r' c1] at hmm
   exact apartN r row b o j' row1 b' o' a1 a2 hm c2 hmm (.inl hw)
  ·rw [mlt r' cq] at hmm
   rw [hback j r a1] at hm
   exact fun e=>apartN r' row' b' o' j row0 b o c1 c2 hmm a2 hm (.inr (by rw [a3]; exact hw)) e.symm
  ·rw [hback j r a1] at hm
   rw [hback j' r' c1] at hmm
   refine i2.apart j j' row0 row1 b o b' o' (fun e=>hne ?_) a2 c2 (by rw [a3]; exact hw) hm hmm
   subst e
   rw [a1] at c1; cases c1; rfl
 ·rcases cases3 r _ hr with ⟨h1,hq,h2⟩ | ⟨j,y,h1,h2,⟨row0,row',e1,e2,e3⟩ | ⟨_,h5⟩⟩
  ·rw [mlt r hq] at hm
   intro hs
   rcases i2.base b hs with h3 | h3 | h3
   ·exact inv.stab r row b o h1 hw hm h3
   ·have:=inv.bnd r b o hm; omega
   ·exact notOwn r row b o h1 hm (fun j _=>h2 j) h3
  ·cases e3
   subst e1
   obtain ⟨b1,o1,hm1,hrel⟩:=i2.row j row0 h2
   have hrw:=(hmove b1 o1 row0 row e2 hrel).2
   exact i2.stab j row0 b o h2 (by rw [← hrw]; exact hw) (by rw [← hback j r h1]; exact hm)
  ·cases h5
 ·rcases cases3 r _ hr with ⟨h1,hq,h2⟩ | ⟨j,y,h1,h2,⟨row0,row',e1,e2,e3⟩ | ⟨_,h5⟩⟩
  ·rw [mlt r hq] at hm; exact ext.sub b (inv.rost r row b o h1 hw hm)
  ·cases e3
   subst e1
   obtain ⟨b1,o1,hm1,hrel⟩:=i2.row j row0 h2
   have hrw:=(hmove b1 o1 row0 row e2 hrel).2
   exact i2.rost j row0 b o h2 (by rw [← hrw]; exact hw) (by rw [← hback j r h1]; exact hm)
  ·cases h5
 ·rcases i2.base b hb with h3 | h3 | h3
  ·exact inv.base b h3
  ·exact .inr (.inl (Nat.le_trans inv.grow h3))
  ·exact .inr (ownOK b h3)
 ·have hbw:b < w.heap.size:=Nat.lt_of_lt_of_le hb inv.grow
  rw [heapS b hbw (fun hc=>by rcases ownOK b hc with h1 | h1; omega; exact hn h1)]
  exact inv.kept b hb hn
def backG (s:AS) (rs:List Nat) (v:V) (rows':Rows):Option AS :=
 match s.fr.todo with
 | .it (.inRegion ops (i :: rest)) :: k=>match ops[i]? with
  | some o=>match renV (bkN rs s.rows.length) 8 v,backN rs s.rows rows' with
   | some v',some rows=>some { s with fr:={ s.fr with env:=setTmp s.fr.env o.dst v',todo:=.it (.inRegion ops rest) :: k },rows }
   | _,_=>none
  | none=>none
 | _=>none
theorem Ends.callG {c:SCfg} (hc:COK c.cfg) {k:Nat} {s:AS} {Q:V→Rows→Prop} {g:FuncId} {aZ:List V} {rowsC:Rows} {rs:List Nat} (hat:callAt c.cfg s = some (g,aZ,rowsC,rs)) {R:V→Rows→Prop}
  (hd:Does c.P g rs.length aZ rowsC R) (hk:∀ v rows',R v rows'→∃ s',backG s rs v rows' = some s'∧Ends c k s' Q):Ends c k s Q:=by
 intro w0 own bt f M hb hs
 obtain ⟨hbf,m,S,w,tmps,todo,ds,ro,cs,rfl,inv,hfr,hst⟩:=hs
 have ht:=hfr.todo
 unfold callAt at hat
 split at hat
 ·rename_i ops i rest kk htodo
  rw [htodo] at ht
  cases ht with
  | cons hi tl =>
  rename_i kr
  cases hi
  split at hat
  ·rename_i o ho
   split at hat
   ·rename_i fo args hw hcv
    split at hat
    ·rename_i fv vs hf hvs
     split at hat
     ·rename_i g' aZ' hfa
      simp only at hat
      split at hat
      ·rename_i hcond
       simp only [Bool.and_eq_true,decide_eq_true_eq] at hcond
       split at hat
       ·rename_i asC rowsC' has hrows
        split at hat
        ·rename_i hlive
         cases hat
         obtain ⟨asO,ats,hop,rfl⟩:=callView_spec hcv
         have hρ:=opRel_of (fn:=s.fr.fn) (todo:=.inRegion ops (i :: rest) :: kr) (ds:=ds) (ro:=ro) inv.glb hfr.env
         have hw':=wanted_rel hfr.env hw
         obtain ⟨fs,cs',hfe,hargs⟩:=fnArgs_rel hfa (hρ fo _ hf) (args_rel hρ hvs)
         obtain ⟨gf,h1,h2,h3⟩:=hc.rc g hcond.1
         have hrun:=run_call (P:=c.P) (w:=w) hop hfe h1 h2 h3
         have hargs':RVs (renM m (reach s.rows aZ')) S w aZ (fs ++ (asO.map (rfr s.fr.fn tmps (.inRegion ops (i :: rest) :: kr) ds ro).eval) ++ cs'):=by
          refine ⟨by rw [mapO_len has]; exact hargs.1,fun j x v hx hv=>?_⟩
          obtain ⟨y,hy,hren⟩:=mapO_get has hx
          exact renV_rel hren (hargs.2 j y v hy hv)
         obtain ⟨e,w',fr,⟨u,v,rows2,rfl,hR,m',S',i2,r2,hm',hsz⟩,hcomes,hfn,hlv⟩:=hd w (callOwn m S s.rows (reach s.rows aZ')) _ S w _ (call_inv inv hcond.2 hrows) hargs' (rfr s.fr.fn tmps (.inRegion ops (i :: rest) :: kr) ds ro :: cs)
         obtain ⟨s',hs',hE⟩:=hk v rows2 hR
         have hleave:=step_leave_returned (P:=c.P) (c:=rfr s.fr.fn tmps (.inRegion ops (i :: rest) :: kr) ds ro) (cs:=cs) hlv
         rw [finish_rfr ho] at hleave
         unfold backG at hs'
         rw [htodo] at hs'
         simp only at hs'
         rw [ho] at hs'
         simp only at hs'
         split at hs'
         ·rename_i v' rows3 hv' hrows3
          cases hs'
          obtain ⟨i3,e3,hback⟩:=backN_inv inv hcond.2 hrows hlive i2 hm' hsz hrows3
          have r3:RV (mpN (reach s.rows aZ') s.rows.length m m') S' w' v' u:=renV_by (fun r j hj=>hback r j hj) hv' r2
          have hsim:SimF c.P w0 own bt f { s with fr:={ s.fr with env:=setTmp s.fr.env o.dst v',todo:=.it (.inRegion ops rest) :: kk },rows:=rows3 } (lone (rfr s.fr.fn (putT tmps o.dst u) (.inRegion ops rest :: kr) ds ro) cs w'):=by
           refine ⟨?_,mpN (reach s.rows aZ') s.rows.length m m',S',w',_,_,ds,ro,cs,rfl,i3,⟨putT_rel (hfr.env.ext e3) r3 o.dst,.cons rfl (tl.mono e3.map),hfr.ds.ext e3,hfr.ro.mono e3.map⟩,hst.ext e3⟩
           show botFn _ s.stack = f
           rw [botFn_eq] at hbf ⊢
           exact hbf
          obtain ⟨vE,rowsE,hQ,hF⟩:=hE w0 own bt f _ hb hsim
          exact ⟨vE,rowsE,hQ,hF.of_steps (Steps.head (m_enter ho hw' (isNotDefer hcv) hrun) (Steps.trans hcomes (.one hleave)))⟩
         ·cases hs'
        ·cases hat
       ·cases hat
      ·cases hat
     ·cases hat
    ·cases hat
   ·cases hat
  ·cases hat
 ·cases hat
end Go.Aev
end
section
namespace Go.Aev.M44
set_option maxRecDepth 1000000
open Go Go.Aev
noncomputable def c8 (bI bS:Bs):SCfg:=mkW PP (fun g=>!(Nat.beq g 29)) (fun _ _ _=>none) (tabEW bI bS)
theorem c8_ok (bI bS:Bs):COK (c8 bI bS).cfg:=mkW_ok names mixed (fun g args rows ps v h=>by cases h) (fun g args rows ps v rows2 h hp=>tabEW_ok h hp)
def preRange (s:AS):Bool:=match s.fr.todo with
 | .it (.code (.block _ (.rangeFunc _ _ _ _))) :: _=>true
 | _=>false
end Go.Aev.M44
end
section
set_option maxRecDepth 1000000
set_option linter.unusedVariables false
namespace Go.Aev.M44
open Go Go.Aev
noncomputable def tdE:List AItem:=(nextOf (sTo (c8 [] []) (hints [] [] [] 3 false true) preRange 140 (start (c8 [] []) 8 [qA [] 0 0 0 0 0 0 0 0 [] [] []] []))).fr.todo
abbrev pB (o n m:Int) (nm u:Bs) (l:List Pr):Slot:=.live (.box [I o,.d (strD nm),I n,I m,.d (strD u),.d (.list (prDs l))] false)
noncomputable def HE8 (ns:List Int) (ex:Bool) (o n m:Int) (nm u:Bs) (l:List Pr):AS:=hd 8 tdE 53 [(3,.pt 0 0 0 0),(4,.pt 1 0 0 0),(27,.fn 87 [.pt 2 0 0 0])]
 [.live (.box [.sl 3 1 0 (ints ns).length (ints ns).length ex] false),.live (.box [.nil] false),pB o n m nm u l,.live (.dat 1 (ints ns) false)]
noncomputable def SE8 (ns:List Int) (ex:Bool) (o n m:Int) (nm u:Bs) (l:List Pr):AS:=nextOf (sTo (c8 [] []) (hints []) (toCall 5) 300 (HE8 ns ex o n m nm u l))
noncomputable def loop8:Slot:=match callAt (c8 [] []).cfg (SE8 [] true 0 0 0 [] [] []) with
 | some (_,_,r :: _,_)=>r
 | _=>.dead
noncomputable def EA (ns:List Int) (ex:Bool) (P:Slot):Aev.Rows:=[loop8,.live .dfr,.live (.box [.sl 5 1 0 (ints ns).length (ints ns).length ex] false),.live (.box [.nil] false),P,.live (.dat 1 (ints ns) false)]
noncomputable def EB (ns:List Int) (ts:List Bs) (P:Slot):Aev.Rows:=[loop8,.live .dfr,.live (.box [.sl 5 1 0 (ints ns).length (ints ns).length false] false),.live (.box [.sl 6 1 0 (strs ts).length (strs ts).length false] false),P,.live (.dat 1 (ints ns) false),.live (.dat 1 (strs ts) false)]
noncomputable def td88:List AItem:=(nextOf (sTo (c8 [] []) (hints [] [] [] 1 false true) anyLoop 300 (start (c8 [] []) 88 [.d (prC zeroP),.yl 0] (EB [] [] (pB 0 0 0 [] [] []))))).fr.todo
abbrev bx (r n:Nat):Slot:=.live (.box [.sl r 1 0 n n false] false)
noncomputable def YA (ns:List Int) (ts:List Bs) (P:Slot):Aev.Rows:=[loop8,.live .dfr,bx 6 (ints ns).length,bx 7 (strs ts).length,P,.dead,.live (.dat 1 (ints ns) false),.live (.dat 1 (strs ts) false)]
noncomputable def YB (ns:List Int) (ts:List Bs) (P:Slot):Aev.Rows:=[loop8,.live .dfr,bx 7 (ints ns).length,bx 8 (strs ts).length,P,.dead,.dead,.live (.dat 1 (ints ns) false),.live (.dat 1 (strs ts) false)]
noncomputable def H88 (Y:Aev.Rows) (subs:List Pr) (k:Int):AS:=hd 88 td88 23 [(1,.yl 0),(12,.d (.list (prDs subs))),(13,I (prDs subs).length),(14,I k)] Y
noncomputable def td88c:List AItem:=(nextOf (sTo (c8 [] []) (hints [(15,true)] [(12,fun _=>prC zeroP)] [] 1 false true) (toCall 20) 300 (H88 (YB [] [] (pB 0 0 0 [] [] [])) [] 0))).fr.todo
noncomputable def C88 (Y:Aev.Rows) (subs:List Pr) (k:Int) (p:D):AS:=hd 88 td88c 23 [(1,.yl 0),(12,.d (.list (prDs subs))),(13,I (prDs subs).length),(14,I k),(18,.d p),(19,.yl 0)] Y
noncomputable def R88A (ns:List Int) (ts:List Bs) (P:Slot) (ns':List Int) (ts':List Bs) (subs:List Pr) (k:Int) (p:D):AS:=(backG (C88 (YA ns ts P) subs k p) [0,1,2,3,4,6,7] (B true) (YB ns' ts' P)).getD (start (c8 [] []) 0 [] [])
noncomputable def R88B (ns:List Int) (ts:List Bs) (P:Slot) (ns':List Int) (ts':List Bs) (subs:List Pr) (k:Int) (p:D):AS:=(backG (C88 (YB ns ts P) subs k p) [0,1,2,3,4,7,8] (B true) (YB ns' ts' P)).getD (start (c8 [] []) 0 [] [])
end Go.Aev.M44
namespace Go.Aev.M44
theorem ec_z {k w d c g o n m:Int} {nm u:Bs} {l:List Pr} {Q:V→Aev.Rows→Prop} (hp:AllP [true = true,0 < 1∧0 = 0]) (h:Ends (c8 [] []) 0 (hd 8 tdE 53 [(3,V.pt (0) (0) (0) (0)),(4,V.pt (1) (0) (0) (0)),(27,V.fn (87) [V.pt (2) (0) (0) (0)])] [Slot.live (Row.box [V.sl (3) (1) (0) (6) (6) true] false),Slot.live (Row.box [V.nil] false),Slot.live (Row.box [I o,V.d (D.str { data:={ toList:=nm } }),I n,I m,V.d (D.str { data:={ toList:=u } }),V.d (D.list (prDs l))] false),Slot.live (Row.dat (1) [D.int IntKind.i64 k,D.int IntKind.i64 w,D.int IntKind.i64 d,D.int IntKind.i64 c,D.int IntKind.i64 g,D.int IntKind.i64 (0:Int)] false)]) Q):Ends (c8 [] []) 0 (start (c8 [] []) 8 [qA [] k w d c g o n m nm u l] []) Q :=
 Ends.turn (c8_ok [] []) (hints [] [] [] 3 false true) preRange 140 [2,3,4,1] [3,4,27] (by kernel_rfl) hp h
theorem ec_a {vec:List Int} {k w d c g o n m:Int} {nm u:Bs} {l:List Pr} {Q:V→Aev.Rows→Prop} (hp:AllP [(List.all (ints vec) fun e=>List.length (D.cells e) == 1) = true,0 < 1∧List.length (ints vec) ≠ 0∧1 = 1∧1 = 1∧6 ≤ 6∧¬6 + List.length (ints vec) ≤ 6∧2 * (6 + List.length (ints vec)) * 8 ≤ 281474976710656∧6 + List.length (ints vec) ≤ 4611686018427387904]) (h:Ends (c8 [] []) 0 (hd 8 tdE 53 [(3,V.pt (0) (0) (0) (0)),(4,V.pt (1) (0) (0) (0)),(27,V.fn (87) [V.pt (2) (0) (0) (0)])] [Slot.live (Row.box [V.sl (3) (1) (0) (6 + List.length (ints vec)) (6 + List.length (ints vec)) false] false),Slot.live (Row.box [V.nil] false),Slot.live (Row.box [I o,V.d (D.str { data:={ toList:=nm } }),I n,I m,V.d (D.str { data:={ toList:=u } }),V.d (D.list (prDs l))] false),Slot.live (Row.dat (1) (D.int IntKind.i64 k :: D.int IntKind.i64 w :: D.int IntKind.i64 d :: D.int IntKind.i64 c :: D.int IntKind.i64 g :: D.int IntKind.i64 (↑(List.length (ints vec)):Int) :: (ints vec)) false)]) Q):Ends (c8 [] []) 0 (start (c8 [] []) 8 [qA vec k w d c g o n m nm u l] []) Q :=
 Ends.turn (c8_ok [] []) (hints [] [] [] 1 false true) preRange 140 [3,4,5,2] [3,4,27] (by kernel_rfl) hp h
theorem eh_t {ns:List Int} {oo on om:Int} {onm ou:Bs} {ol:List Pr} {o n m:Int} {nm u:Bs} {l:List Pr} {Q:V→Aev.Rows→Prop} (hp:AllP [1 = 1∧1 = 1∧4 ≤ 4,0 < 1∧4 ≠ 0∧1 = 1∧1 = 1∧0 + List.length (ints ns) ≤ List.length (ints ns)∧¬List.length (ints ns) + 4 ≤ List.length (ints ns)∧2 * (List.length (ints ns) + 4) * 8 ≤ 281474976710656∧List.length (ints ns) + 4 ≤ 4611686018427387904,1 = 1∧1 = 1∧2 ≤ 2,0 < 1∧2 ≠ 0∧64 ≤ 281474976710656∧2 ≤ 4611686018427387904]) (h:Ends (c8 [] []) 6 (hd 88 td88 23 [(1,V.yl (0)),(12,V.d (D.list (prDs (Pr.subs (Pr.mk o nm n m u l))))),(13,I (↑(List.length (prDs (Pr.subs (Pr.mk o nm n m u l)))):Int)),(14,I 0)] [loop8,Slot.live Row.dfr,Slot.live (Row.box [V.sl (6) (1) (0) (List.length (ints ns) + 4) (List.length (ints ns) + 4) false] false),Slot.live (Row.box [V.sl (7) (1) (0) (2) (2) false] false),Slot.live (Row.box [I oo,V.d (D.str { data:={ toList:=onm } }),I on,I om,V.d (D.str { data:={ toList:=ou } }),V.d (D.list (prDs ol))] false),Slot.live (Row.dat (1) (ints ns) false),Slot.live (Row.dat (1) (List.take (List.length (ints ns)) (List.drop (0) (ints ns)) ++ [D.int IntKind.i64 (Pr.op (Pr.mk o nm n m u l)),D.int IntKind.i64 (Pr.n (Pr.mk o nm n m u l)),D.int IntKind.i64 (Pr.m (Pr.mk o nm n m u l)),D.int IntKind.i64 (↑(List.length (prDs (Pr.subs (Pr.mk o nm n m u l)))):Int)]) false),Slot.live (Row.dat (1) [D.str { data:={ toList:=nm } },D.str { data:={ toList:=u } }] false)]) Q):Ends (c8 [] []) 6 (start (c8 [] []) 88 [.d (prC (.mk o nm n m u l)),.yl 0] (EA ns true (pB oo on om onm ou ol))) Q :=
  Ends.turn (c8_ok [] []) (hints [] [] [] 1 false true) anyLoop 140 [0,
 1,
 2,
 3,
 4,
 5,
 9,
 11] [1,12,13,14] (by kernel_rfl) hp h
theorem eh_f {ns:List Int} {oo on om:Int} {onm ou:Bs} {ol:List Pr} {o n m:Int} {nm u:Bs} {l:List Pr} {Q:V→Aev.Rows→Prop} (hp:AllP [1 = 1∧1 = 1∧4 ≤ 4,0 < 1∧4 ≠ 0∧1 = 1∧1 = 1∧0 + List.length (ints ns) ≤ List.length (ints ns)∧¬List.length (ints ns) + 4 ≤ List.length (ints ns)∧2 * (List.length (ints ns) + 4) * 8 ≤ 281474976710656∧List.length (ints ns) + 4 ≤ 4611686018427387904,1 = 1∧1 = 1∧2 ≤ 2,0 < 1∧2 ≠ 0∧64 ≤ 281474976710656∧2 ≤ 4611686018427387904]) (h:Ends (c8 [] []) 6 (hd 88 td88 23 [(1,V.yl (0)),(12,V.d (D.list (prDs (Pr.subs (Pr.mk o nm n m u l))))),(13,I (↑(List.length (prDs (Pr.subs (Pr.mk o nm n m u l)))):Int)),(14,I 0)] [loop8,Slot.live Row.dfr,Slot.live (Row.box [V.sl (6) (1) (0) (List.length (ints ns) + 4) (List.length (ints ns) + 4) false] false),Slot.live (Row.box [V.sl (7) (1) (0) (2) (2) false] false),Slot.live (Row.box [I oo,V.d (D.str { data:={ toList:=onm } }),I on,I om,V.d (D.str { data:={ toList:=ou } }),V.d (D.list (prDs ol))] false),Slot.dead,Slot.live (Row.dat (1) (List.take (List.length (ints ns)) (List.drop (0) (ints ns)) ++ [D.int IntKind.i64 (Pr.op (Pr.mk o nm n m u l)),D.int IntKind.i64 (Pr.n (Pr.mk o nm n m u l)),D.int IntKind.i64 (Pr.m (Pr.mk o nm n m u l)),D.int IntKind.i64 (↑(List.length (prDs (Pr.subs (Pr.mk o nm n m u l)))):Int)]) false),Slot.live (Row.dat (1) [D.str { data:={ toList:=nm } },D.str { data:={ toList:=u } }] false)]) Q):Ends (c8 [] []) 6 (start (c8 [] []) 88 [.d (prC (.mk o nm n m u l)),.yl 0] (EA ns false (pB oo on om onm ou ol))) Q :=
  Ends.turn (c8_ok [] []) (hints [] [] [] 1 false true) anyLoop 140 [0,
 1,
 2,
 3,
 4,
 5,
 9,
 11] [1,12,13,14] (by kernel_rfl) hp h
theorem eh_b {ns:List Int} {ts:List Bs} {oo on om:Int} {onm ou:Bs} {ol:List Pr} {o n m:Int} {nm u:Bs} {l:List Pr} {Q:V→Aev.Rows→Prop} (hp:AllP [1 = 1∧1 = 1∧4 ≤ 4,0 < 1∧4 ≠ 0∧1 = 1∧1 = 1∧0 + List.length (ints ns) ≤ List.length (ints ns)∧¬List.length (ints ns) + 4 ≤ List.length (ints ns)∧2 * (List.length (ints ns) + 4) * 8 ≤ 281474976710656∧List.length (ints ns) + 4 ≤ 4611686018427387904,1 = 1∧1 = 1∧2 ≤ 2,0 < 1∧2 ≠ 0∧1 = 1∧1 = 1∧0 + List.length (strs ts) ≤ List.length (strs ts)∧¬List.length (strs ts) + 2 ≤ List.length (strs ts)∧2 * (List.length (strs ts) + 2) * 16 ≤ 281474976710656∧List.length (strs ts) + 2 ≤ 4611686018427387904]) (h:Ends (c8 [] []) 7 (hd 88 td88 23 [(1,V.yl (0)),(12,V.d (D.list (prDs (Pr.subs (Pr.mk o nm n m u l))))),(13,I (↑(List.length (prDs (Pr.subs (Pr.mk o nm n m u l)))):Int)),(14,I 0)] [loop8,Slot.live Row.dfr,Slot.live (Row.box [V.sl (7) (1) (0) (List.length (ints ns) + 4) (List.length (ints ns) + 4) false] false),Slot.live (Row.box [V.sl (8) (1) (0) (List.length (strs ts) + 2) (List.length (strs ts) + 2) false] false),Slot.live (Row.box [I oo,V.d (D.str { data:={ toList:=onm } }),I on,I om,V.d (D.str { data:={ toList:=ou } }),V.d (D.list (prDs ol))] false),Slot.dead,Slot.dead,Slot.live (Row.dat (1) (List.take (List.length (ints ns)) (List.drop (0) (ints ns)) ++ [D.int IntKind.i64 (Pr.op (Pr.mk o nm n m u l)),D.int IntKind.i64 (Pr.n (Pr.mk o nm n m u l)),D.int IntKind.i64 (Pr.m (Pr.mk o nm n m u l)),D.int IntKind.i64 (↑(List.length (prDs (Pr.subs (Pr.mk o nm n m u l)))):Int)]) false),Slot.live (Row.dat (1) (List.take (List.length (strs ts)) (List.drop (0) (strs ts)) ++ [D.str { data:={ toList:=nm } },D.str { data:={ toList:=u } }]) false)]) Q):Ends (c8 [] []) 7 (start (c8 [] []) 88 [.d (prC (.mk o nm n m u l)),.yl 0] (EB ns ts (pB oo on om onm ou ol))) Q :=
  Ends.turn (c8_ok [] []) (hints [] [] [] 1 false true) anyLoop 140 [0,
 1,
 2,
 3,
 4,
 5,
 6,
 10,
 12] [1,12,13,14] (by kernel_rfl) hp h
theorem el_eA {ns:List Int} {ts:List Bs} {oo on om:Int} {onm ou:Bs} {ol:List Pr} {subs:List Pr} {k:Int} {Q:V→Aev.Rows→Prop} (hp:AllP [decide (k < (↑(List.length (prDs subs)):Int)) = false]) (h:Q (V.d (D.bool true)) ([loop8,Slot.live Row.dfr,Slot.live (Row.box [V.sl (6) (1) (0) (List.length (ints ns)) (List.length (ints ns)) false] false),Slot.live (Row.box [V.sl (7) (1) (0) (List.length (strs ts)) (List.length (strs ts)) false] false),Slot.live (Row.box [I oo,V.d (D.str { data:={ toList:=onm } }),I on,I om,V.d (D.str { data:={ toList:=ou } }),V.d (D.list (prDs ol))] false),Slot.dead,Slot.live (Row.dat (1) (ints ns) false),Slot.live (Row.dat (1) (strs ts) false)])):Ends (c8 [] []) 6 (H88 (YA ns ts (pB oo on om onm ou ol)) subs k) Q :=
 Ends.toFin (c8_ok [] []) (hints [(15,false)] [] [] 0 false true) anyLoop 140 (by kernel_rfl) hp h
theorem el_cA {ns:List Int} {ts:List Bs} {oo on om:Int} {onm ou:Bs} {ol:List Pr} {subs:List Pr} {k:Int} {o1 n1 m1:Int} {nm1 u1:Bs} {l1:List Pr} {Q:V→Aev.Rows→Prop} (hp:AllP [decide (k < (↑(List.length (prDs subs)):Int)) = true,(0:Int) ≤ k∧k < (↑(List.length (prDs subs)):Int),(prDs subs)[Int.toNat k]? = some (D.agg [D.int IntKind.i64 (Pr.op (Pr.mk o1 nm1 n1 m1 u1 l1)),D.str { data:={ toList:=nm1 } },D.int IntKind.i64 (Pr.n (Pr.mk o1 nm1 n1 m1 u1 l1)),D.int IntKind.i64 (Pr.m (Pr.mk o1 nm1 n1 m1 u1 l1)),D.str { data:={ toList:=u1 } },D.list (prDs (Pr.subs (Pr.mk o1 nm1 n1 m1 u1 l1)))]),6 = 6]) (h:Ends (c8 [] []) 6 (hd 88 td88c 23 [(1,V.yl (0)),(12,V.d (D.list (prDs subs))),(13,I (↑(List.length (prDs subs)):Int)),(14,I k),(18,V.d (D.agg [D.int IntKind.i64 (Pr.op (Pr.mk o1 nm1 n1 m1 u1 l1)),D.str { data:={ toList:=nm1 } },D.int IntKind.i64 (Pr.n (Pr.mk o1 nm1 n1 m1 u1 l1)),D.int IntKind.i64 (Pr.m (Pr.mk o1 nm1 n1 m1 u1 l1)),D.str { data:={ toList:=u1 } },D.list (prDs (Pr.subs (Pr.mk o1 nm1 n1 m1 u1 l1)))])),(19,V.yl (0))] [loop8,Slot.live Row.dfr,Slot.live (Row.box [V.sl (6) (1) (0) (List.length (ints ns)) (List.length (ints ns)) false] false),Slot.live (Row.box [V.sl (7) (1) (0) (List.length (strs ts)) (List.length (strs ts)) false] false),Slot.live (Row.box [I oo,V.d (D.str { data:={ toList:=onm } }),I on,I om,V.d (D.str { data:={ toList:=ou } }),V.d (D.list (prDs ol))] false),Slot.dead,Slot.live (Row.dat (1) (ints ns) false),Slot.live (Row.dat (1) (strs ts) false)]) Q):Ends (c8 [] []) 6 (H88 (YA ns ts (pB oo on om onm ou ol)) subs k) Q :=
  Ends.turn (c8_ok [] []) (hints [(15,true)] [(12,fun _=>prC (.mk o1 nm1 n1 m1 u1 l1))] [] 1 false true) (toCall 20) 140 [0,
 1,
 2,
 3,
 4,
 5,
 6,
 7] [1,12,13,14,18,19] (by kernel_rfl) hp h
theorem el_rA {ns:List Int} {ts:List Bs} {oo on om:Int} {onm ou:Bs} {ol:List Pr} {ns':List Int} {ts':List Bs} {subs:List Pr} {k:Int} {p:D} {Q:V→Aev.Rows→Prop} (hp:AllP [inInt (k + (1:Int))]) (h:Ends (c8 [] []) 6 (hd 88 td88 23 [(1,V.yl (0)),(12,V.d (D.list (prDs subs))),(13,I (↑(List.length (prDs subs)):Int)),(14,I (k + (1:Int)))] [loop8,Slot.live Row.dfr,Slot.live (Row.box [V.sl (6) (1) (0) (List.length (ints ns')) (List.length (ints ns')) false] false),Slot.live (Row.box [V.sl (7) (1) (0) (List.length (strs ts')) (List.length (strs ts')) false] false),Slot.live (Row.box [I oo,V.d (D.str { data:={ toList:=onm } }),I on,I om,V.d (D.str { data:={ toList:=ou } }),V.d (D.list (prDs ol))] false),Slot.dead,Slot.live (Row.dat (1) (ints ns') false),Slot.live (Row.dat (1) (strs ts') false)]) Q):Ends (c8 [] []) 6 (R88A ns ts (pB oo on om onm ou ol) ns' ts' subs k p) Q :=
  Ends.turn (c8_ok [] []) (hints [] [] [] 1 false true) anyLoop 140 [0,
 1,
 2,
 3,
 4,
 5,
 8,
 9] [1,12,13,14] (by kernel_rfl) hp h
theorem el_eB {ns:List Int} {ts:List Bs} {oo on om:Int} {onm ou:Bs} {ol:List Pr} {subs:List Pr} {k:Int} {Q:V→Aev.Rows→Prop} (hp:AllP [decide (k < (↑(List.length (prDs subs)):Int)) = false]) (h:Q (V.d (D.bool true)) ([loop8,Slot.live Row.dfr,Slot.live (Row.box [V.sl (7) (1) (0) (List.length (ints ns)) (List.length (ints ns)) false] false),Slot.live (Row.box [V.sl (8) (1) (0) (List.length (strs ts)) (List.length (strs ts)) false] false),Slot.live (Row.box [I oo,V.d (D.str { data:={ toList:=onm } }),I on,I om,V.d (D.str { data:={ toList:=ou } }),V.d (D.list (prDs ol))] false),Slot.dead,Slot.dead,Slot.live (Row.dat (1) (ints ns) false),Slot.live (Row.dat (1) (strs ts) false)])):Ends (c8 [] []) 7 (H88 (YB ns ts (pB oo on om onm ou ol)) subs k) Q :=
 Ends.toFin (c8_ok [] []) (hints [(15,false)] [] [] 0 false true) anyLoop 140 (by kernel_rfl) hp h
theorem el_cB {ns:List Int} {ts:List Bs} {oo on om:Int} {onm ou:Bs} {ol:List Pr} {subs:List Pr} {k:Int} {o1 n1 m1:Int} {nm1 u1:Bs} {l1:List Pr} {Q:V→Aev.Rows→Prop} (hp:AllP [decide (k < (↑(List.length (prDs subs)):Int)) = true,(0:Int) ≤ k∧k < (↑(List.length (prDs subs)):Int),(prDs subs)[Int.toNat k]? = some (D.agg [D.int IntKind.i64 (Pr.op (Pr.mk o1 nm1 n1 m1 u1 l1)),D.str { data:={ toList:=nm1 } },D.int IntKind.i64 (Pr.n (Pr.mk o1 nm1 n1 m1 u1 l1)),D.int IntKind.i64 (Pr.m (Pr.mk o1 nm1 n1 m1 u1 l1)),D.str { data:={ toList:=u1 } },D.list (prDs (Pr.subs (Pr.mk o1 nm1 n1 m1 u1 l1)))]),6 = 6]) (h:Ends (c8 [] []) 7 (hd 88 td88c 23 [(1,V.yl (0)),(12,V.d (D.list (prDs subs))),(13,I (↑(List.length (prDs subs)):Int)),(14,I k),(18,V.d (D.agg [D.int IntKind.i64 (Pr.op (Pr.mk o1 nm1 n1 m1 u1 l1)),D.str { data:={ toList:=nm1 } },D.int IntKind.i64 (Pr.n (Pr.mk o1 nm1 n1 m1 u1 l1)),D.int IntKind.i64 (Pr.m (Pr.mk o1 nm1 n1 m1 u1 l1)),D.str { data:={ toList:=u1 } },D.list (prDs (Pr.subs (Pr.mk o1 nm1 n1 m1 u1 l1)))])),(19,V.yl (0))] [loop8,Slot.live Row.dfr,Slot.live (Row.box [V.sl (7) (1) (0) (List.length (ints ns)) (List.length (ints ns)) false] false),Slot.live (Row.box [V.sl (8) (1) (0) (List.length (strs ts)) (List.length (strs ts)) false] false),Slot.live (Row.box [I oo,V.d (D.str { data:={ toList:=onm } }),I on,I om,V.d (D.str { data:={ toList:=ou } }),V.d (D.list (prDs ol))] false),Slot.dead,Slot.dead,Slot.live (Row.dat (1) (ints ns) false),Slot.live (Row.dat (1) (strs ts) false)]) Q):Ends (c8 [] []) 7 (H88 (YB ns ts (pB oo on om onm ou ol)) subs k) Q :=
  Ends.turn (c8_ok [] []) (hints [(15,true)] [(12,fun _=>prC (.mk o1 nm1 n1 m1 u1 l1))] [] 1 false true) (toCall 20) 140 [0,
 1,
 2,
 3,
 4,
 5,
 6,
 7,
 8] [1,12,13,14,18,19] (by kernel_rfl) hp h
theorem el_rB {ns:List Int} {ts:List Bs} {oo on om:Int} {onm ou:Bs} {ol:List Pr} {ns':List Int} {ts':List Bs} {subs:List Pr} {k:Int} {p:D} {Q:V→Aev.Rows→Prop} (hp:AllP [inInt (k + (1:Int))]) (h:Ends (c8 [] []) 7 (hd 88 td88 23 [(1,V.yl (0)),(12,V.d (D.list (prDs subs))),(13,I (↑(List.length (prDs subs)):Int)),(14,I (k + (1:Int)))] [loop8,Slot.live Row.dfr,Slot.live (Row.box [V.sl (7) (1) (0) (List.length (ints ns')) (List.length (ints ns')) false] false),Slot.live (Row.box [V.sl (8) (1) (0) (List.length (strs ts')) (List.length (strs ts')) false] false),Slot.live (Row.box [I oo,V.d (D.str { data:={ toList:=onm } }),I on,I om,V.d (D.str { data:={ toList:=ou } }),V.d (D.list (prDs ol))] false),Slot.dead,Slot.dead,Slot.live (Row.dat (1) (ints ns') false),Slot.live (Row.dat (1) (strs ts') false)]) Q):Ends (c8 [] []) 7 (R88B ns ts (pB oo on om onm ou ol) ns' ts' subs k p) Q :=
  Ends.turn (c8_ok [] []) (hints [] [] [] 1 false true) anyLoop 140 [0,
 1,
 2,
 3,
 4,
 5,
 6,
 9,
 10] [1,12,13,14] (by kernel_rfl) hp h
end Go.Aev.M44
end
section
namespace Go.Aev.M44
set_option maxRecDepth 1000000
open Go Go.Aev
theorem Ends.kill {c:SCfg} {k:Nat} {s:AS} {Q:V→Aev.Rows→Prop} (r:Nat) (h:r < s.rows.length) (hk:Ends c k { s with rows:=setSlot s.rows r Slot.dead } Q):Ends c k s Q:=by
 intro w0 own bt f M hb hs
 obtain ⟨hbf,m,S,w,tmps,todo,ds,ro,cs,rfl,inv,hfr,hst⟩:=hs
 exact hk w0 own bt f _ hb ⟨hbf,m,S,w,tmps,todo,ds,ro,cs,rfl,inv.kill r h,hfr,hst⟩
theorem nums_cons (p:Pr) (r:List Pr):nums (p :: r) = num1 p ++ nums r:=by simp [nums]
theorem txts_cons (p:Pr) (r:List Pr):txts (p :: r) = txt1 p ++ txts r:=by simp [txts]
def EachB (oo on om:Int) (onm ou:Bs) (ol:List Pr) (p:Pr):Prop:=∀ (ns:List Int) (ts:List Bs),ns.length + (nums (parts p)).length ≤ 10000000→ts.length + (txts (parts p)).length ≤ 10000000 →
 Does PP 88 7 [.d (prC p),.yl 0] (EB ns ts (pB oo on om onm ou ol)) (fun x y=>x = B true∧y = YB (ns ++ nums (parts p)) (ts ++ txts (parts p)) (pB oo on om onm ou ol))
theorem szL_mem {q:Pr} {l:List Pr} (h:q ∈ l):szP q ≤ szL l:=by
 induction l with
 | nil=>cases h
 | cons x r ih =>
  rw [szL]
  cases h with
  | head=>omega
  | tail _ h=>have:=ih h; omega
theorem partsL_ge (l:List Pr):l.length ≤ (partsL l).length:=by
 induction l with
 | nil=>simp
 | cons x r ih=>have:=parts_pos x; rw [partsL,List.length_append,List.length_cons]; omega
theorem nums_len (l:List Pr):(nums l).length = 4 * l.length:=by
 induction l with
 | nil=>rfl
 | cons x r ih=>rw [nums_cons,List.length_append,ih,List.length_cons]; have:(num1 x).length = 4:=rfl; omega
theorem txts_len (l:List Pr):(txts l).length = 2 * l.length:=by
 induction l with
 | nil=>rfl
 | cons x r ih=>rw [txts_cons,List.length_append,ih,List.length_cons]; have:(txt1 x).length = 2:=rfl; omega
theorem nums_ge (l:List Pr):l.length ≤ (nums (partsL l)).length:=by
 have:=partsL_ge l
 rw [nums_len]; omega
theorem each_loopB {oo on om:Int} {onm ou:Bs} {ol:List Pr} {subs:List Pr} (hl:subs.length ≤ 10000000) (hs:∀ q ∈ subs,EachB oo on om onm ou ol q):∀ (j k:Nat) (ns:List Int) (ts:List Bs),k + j = subs.length→ns.length + (nums (partsL (subs.drop k))).length ≤ 10000000→ts.length + (txts (partsL (subs.drop k))).length ≤ 10000000 →
  Ends (c8 [] []) 7 (H88 (YB ns ts (pB oo on om onm ou ol)) subs (k:Int)) (fun x y=>x = B true∧y = YB (ns ++ nums (partsL (subs.drop k))) (ts ++ txts (partsL (subs.drop k))) (pB oo on om onm ou ol)):=by
 have el:=prDs_len subs
 intro j
 induction j with
 | zero =>
  intro k ns ts hk _ _
  rw [List.drop_of_length_le (by omega)]
  simp only [partsL,nums,txts,List.flatMap_nil,List.append_nil]
  exact el_eB ⟨decide_eq_false (by omega),trivial⟩ ⟨rfl,rfl⟩
 | succ j ih =>
  intro k ns ts hk h1 h2
  have hkl:k < subs.length:=by omega
  have hget:=prDs_get hkl
  unfold elP at hget
  have hq:=hs _ (getD_mem hkl zeroP)
  rw [drop_cons hkl zeroP] at h1 h2 ⊢
  cases hp:subs.getD k zeroP with
  | mk o1 nm1 n1 m1 u1 l1 =>
   rw [hp] at hget hq h1 h2
   have e1:nums (partsL (Pr.mk o1 nm1 n1 m1 u1 l1 :: subs.drop (k + 1))) = nums (parts (.mk o1 nm1 n1 m1 u1 l1)) ++ nums (partsL (subs.drop (k + 1))):=by rw [partsL,nums_append]
   have e2:txts (partsL (Pr.mk o1 nm1 n1 m1 u1 l1 :: subs.drop (k + 1))) = txts (parts (.mk o1 nm1 n1 m1 u1 l1)) ++ txts (partsL (subs.drop (k + 1))):=by rw [partsL,txts_append]
   rw [e1,List.length_append] at h1
   rw [e2,List.length_append] at h2
   rw [e1,e2,← List.append_assoc,← List.append_assoc]
   have next:=ih (k + 1) (ns ++ nums (parts (.mk o1 nm1 n1 m1 u1 l1))) (ts ++ txts (parts (.mk o1 nm1 n1 m1 u1 l1))) (by omega) (by rw [List.length_append]; omega) (by rw [List.length_append]; omega)
   have hd1:decide ((k:Int) < ((prDs subs).length:Int)) = true:=decide_eq_true (by omega)
   have get:(prDs subs)[Int.toNat (k:Int)]? = some (prC (.mk o1 nm1 n1 m1 u1 l1)):=by rw [Int.toNat_natCast]; exact hget
   have hi:inInt ((k:Int) + (1:Int)):=by unfold inInt; omega
   refine el_cB (o1:=o1) (nm1:=nm1) (n1:=n1) (m1:=m1) (u1:=u1) (l1:=l1) ⟨hd1,by omega,get,rfl,trivial⟩ ?_
   show Ends (c8 [] []) 7 (C88 (YB ns ts (pB oo on om onm ou ol)) subs (k:Int) (prC (.mk o1 nm1 n1 m1 u1 l1))) _
   refine Ends.callG (c8_ok [] []) (by kernel_rfl:callAt (c8 [] []).cfg (C88 (YB ns ts (pB oo on om onm ou ol)) subs (k:Int) (prC (.mk o1 nm1 n1 m1 u1 l1))) = some (88,[.d (prC (.mk o1 nm1 n1 m1 u1 l1)),.yl 0],EB ns ts (pB oo on om onm ou ol),[0,1,2,3,4,7,8])) (hq ns ts (by omega) (by omega)) ?_
   rintro v rows' ⟨rfl,rfl⟩
   have hb:(backG (C88 (YB ns ts (pB oo on om onm ou ol)) subs (k:Int) (prC (.mk o1 nm1 n1 m1 u1 l1))) [0,1,2,3,4,7,8] (B true) (YB (ns ++ nums (parts (.mk o1 nm1 n1 m1 u1 l1))) (ts ++ txts (parts (.mk o1 nm1 n1 m1 u1 l1))) (pB oo on om onm ou ol))).isSome = true:=by kernel_rfl
   obtain ⟨s',hs'⟩:=Option.isSome_iff_exists.1 hb
   refine ⟨s',hs',?_⟩
   have er:R88B ns ts (pB oo on om onm ou ol) (ns ++ nums (parts (.mk o1 nm1 n1 m1 u1 l1))) (ts ++ txts (parts (.mk o1 nm1 n1 m1 u1 l1))) subs (k:Int) (prC (.mk o1 nm1 n1 m1 u1 l1)) = s':=by unfold R88B; rw [hs']; rfl
   rw [← er]
   exact el_rB ⟨hi,trivial⟩ next
theorem each_loopA {oo on om:Int} {onm ou:Bs} {ol:List Pr} {subs:List Pr} (hl:subs.length ≤ 10000000) (hs:∀ q ∈ subs,EachB oo on om onm ou ol q):∀ (j k:Nat) (ns:List Int) (ts:List Bs),k + j = subs.length→ns.length + (nums (partsL (subs.drop k))).length ≤ 10000000→ts.length + (txts (partsL (subs.drop k))).length ≤ 10000000 →
  Ends (c8 [] []) 6 (H88 (YA ns ts (pB oo on om onm ou ol)) subs (k:Int)) (fun x y=>x = B true∧y = YA (ns ++ nums (partsL (subs.drop k))) (ts ++ txts (partsL (subs.drop k))) (pB oo on om onm ou ol)):=by
 have el:=prDs_len subs
 intro j
 induction j with
 | zero =>
  intro k ns ts hk _ _
  rw [List.drop_of_length_le (by omega)]
  simp only [partsL,nums,txts,List.flatMap_nil,List.append_nil]
  exact el_eA ⟨decide_eq_false (by omega),trivial⟩ ⟨rfl,rfl⟩
 | succ j ih =>
  intro k ns ts hk h1 h2
  have hkl:k < subs.length:=by omega
  have hget:=prDs_get hkl
  unfold elP at hget
  have hq:=hs _ (getD_mem hkl zeroP)
  rw [drop_cons hkl zeroP] at h1 h2 ⊢
  cases hp:subs.getD k zeroP with
  | mk o1 nm1 n1 m1 u1 l1 =>
   rw [hp] at hget hq h1 h2
   have e1:nums (partsL (Pr.mk o1 nm1 n1 m1 u1 l1 :: subs.drop (k + 1))) = nums (parts (.mk o1 nm1 n1 m1 u1 l1)) ++ nums (partsL (subs.drop (k + 1))):=by rw [partsL,nums_append]
   have e2:txts (partsL (Pr.mk o1 nm1 n1 m1 u1 l1 :: subs.drop (k + 1))) = txts (parts (.mk o1 nm1 n1 m1 u1 l1)) ++ txts (partsL (subs.drop (k + 1))):=by rw [partsL,txts_append]
   rw [e1,List.length_append] at h1
   rw [e2,List.length_append] at h2
   rw [e1,e2,← List.append_assoc,← List.append_assoc]
   have next:=ih (k + 1) (ns ++ nums (parts (.mk o1 nm1 n1 m1 u1 l1))) (ts ++ txts (parts (.mk o1 nm1 n1 m1 u1 l1))) (by omega) (by rw [List.length_append]; omega) (by rw [List.length_append]; omega)
   have hd1:decide ((k:Int) < ((prDs subs).length:Int)) = true:=decide_eq_true (by omega)
   have get:(prDs subs)[Int.toNat (k:Int)]? = some (prC (.mk o1 nm1 n1 m1 u1 l1)):=by rw [Int.toNat_natCast]; exact hget
   have hi:inInt ((k:Int) + (1:Int)):=by unfold inInt; omega
   refine el_cA (o1:=o1) (nm1:=nm1) (n1:=n1) (m1:=m1) (u1:=u1) (l1:=l1) ⟨hd1,by omega,get,rfl,trivial⟩ ?_
   show Ends (c8 [] []) 6 (C88 (YA ns ts (pB oo on om onm ou ol)) subs (k:Int) (prC (.mk o1 nm1 n1 m1 u1 l1))) _
   refine Ends.callG (c8_ok [] []) (by kernel_rfl:callAt (c8 [] []).cfg (C88 (YA ns ts (pB oo on om onm ou ol)) subs (k:Int) (prC (.mk o1 nm1 n1 m1 u1 l1))) = some (88,[.d (prC (.mk o1 nm1 n1 m1 u1 l1)),.yl 0],EB ns ts (pB oo on om onm ou ol),[0,1,2,3,4,6,7])) (hq ns ts (by omega) (by omega)) ?_
   rintro v rows' ⟨rfl,rfl⟩
   have hb:(backG (C88 (YA ns ts (pB oo on om onm ou ol)) subs (k:Int) (prC (.mk o1 nm1 n1 m1 u1 l1))) [0,1,2,3,4,6,7] (B true) (YB (ns ++ nums (parts (.mk o1 nm1 n1 m1 u1 l1))) (ts ++ txts (parts (.mk o1 nm1 n1 m1 u1 l1))) (pB oo on om onm ou ol))).isSome = true:=by kernel_rfl
   obtain ⟨s',hs'⟩:=Option.isSome_iff_exists.1 hb
   refine ⟨s',hs',?_⟩
   have er:R88A ns ts (pB oo on om onm ou ol) (ns ++ nums (parts (.mk o1 nm1 n1 m1 u1 l1))) (ts ++ txts (parts (.mk o1 nm1 n1 m1 u1 l1))) subs (k:Int) (prC (.mk o1 nm1 n1 m1 u1 l1)) = s':=by unfold R88A; rw [hs']; rfl
   rw [← er]
   exact el_rA ⟨hi,trivial⟩ next
theorem each_b {oo on om:Int} {onm ou:Bs} {ol:List Pr}:∀ (f:Nat) (p:Pr),szP p ≤ f→EachB oo on om onm ou ol p:=by
 intro f
 induction f with
 | zero=>intro p h; cases p; simp [szP] at h
 | succ f ih =>
  intro p h ns ts h1 h2
  obtain ⟨o,nm,n,m,u,l⟩:=p
  simp only [szP] at h
  have hs:∀ q ∈ l,EachB oo on om onm ou ol q:=fun q hq=>ih q (Nat.le_trans (szL_mem hq) (by omega))
  have en:=ints_len ns
  have et:=strs_len ts
  have ep:parts (.mk o nm n m u l) = .mk o nm n m u l :: partsL l:=by rw [parts]
  rw [ep,nums_cons] at h1
  rw [ep,txts_cons] at h2
  rw [ep,nums_cons,txts_cons,← List.append_assoc,← List.append_assoc]
  rw [List.length_append] at h1 h2
  have c1:(num1 (.mk o nm n m u l)).length = 4:=rfl
  have c2:(txt1 (.mk o nm n m u l)).length = 2:=rfl
  have hl:l.length ≤ 10000000:=by have:=nums_ge l; omega
  have next:=each_loopB hl hs l.length 0 (ns ++ num1 (.mk o nm n m u l)) (ts ++ txt1 (.mk o nm n m u l)) (by omega) (by rw [List.length_append,List.drop_zero]; omega) (by rw [List.length_append,List.drop_zero]; omega)
  rw [List.drop_zero] at next
  refine does_of (c8_ok [] []) (by kernel_rfl) ?_
  refine eh_b ⟨⟨rfl,rfl,by omega⟩,⟨by omega,by omega,rfl,rfl,by omega,by omega,by omega,by omega⟩,⟨rfl,rfl,by omega⟩,⟨by omega,by omega,rfl,rfl,by omega,by omega,by omega,by omega⟩,trivial⟩ ?_
  have l1':(ints (ns ++ num1 (.mk o nm n m u l))).length = (ints ns).length + 4:=by rw [ints_len,List.length_append,en]; rfl
  have l2':(strs (ts ++ txt1 (.mk o nm n m u l))).length = (strs ts).length + 2:=by rw [strs_len,List.length_append,et]; rfl
  unfold H88 YB bx at next
  rw [l1',l2',← num_step,← txt_step] at next
  exact next
theorem each_a {ns:List Int} {ex:Bool} {p:Pr} {oo on om:Int} {onm ou:Bs} {ol:List Pr} (h1:ns.length + (nums (parts p)).length ≤ 10000000) (h2:(txts (parts p)).length ≤ 10000000) :
  Does PP 88 6 [.d (prC p),.yl 0] (EA ns ex (pB oo on om onm ou ol)) (fun x y=>x = B true∧y = YA (ns ++ nums (parts p)) (txts (parts p)) (pB oo on om onm ou ol)):=by
 obtain ⟨o,nm,n,m,u,l⟩:=p
 have hs:∀ q ∈ l,EachB oo on om onm ou ol q:=fun q hq=>each_b (szP q) q (Nat.le_refl _)
 have en:=ints_len ns
 have ep:parts (.mk o nm n m u l) = .mk o nm n m u l :: partsL l:=by rw [parts]
 rw [ep,nums_cons] at h1
 rw [ep,txts_cons] at h2
 rw [ep,nums_cons,txts_cons,← List.append_assoc]
 rw [List.length_append] at h1 h2
 have c1:(num1 (.mk o nm n m u l)).length = 4:=rfl
 have c2:(txt1 (.mk o nm n m u l)).length = 2:=rfl
 have hl:l.length ≤ 10000000:=by have:=nums_ge l; omega
 have next:=each_loopA hl hs l.length 0 (ns ++ num1 (.mk o nm n m u l)) (txt1 (.mk o nm n m u l)) (by omega) (by rw [List.length_append,List.drop_zero]; omega) (by rw [List.drop_zero]; omega)
 rw [List.drop_zero] at next
 have l1':(ints (ns ++ num1 (.mk o nm n m u l))).length = (ints ns).length + 4:=by rw [ints_len,List.length_append,en]; rfl
 unfold H88 YA bx at next
 rw [l1',← num_step] at next
 refine does_of (c8_ok [] []) (by cases ex <;> kernel_rfl) ?_
 cases ex with
 | true=>exact eh_t ⟨⟨rfl,rfl,by omega⟩,⟨by omega,by omega,rfl,rfl,by omega,by omega,by omega,by omega⟩,⟨rfl,rfl,by omega⟩,⟨by omega,by omega,by omega,by omega⟩,trivial⟩ (Ends.kill 5 (by show 5 < 8; omega) next)
 | false=>exact eh_f ⟨⟨rfl,rfl,by omega⟩,⟨by omega,by omega,rfl,rfl,by omega,by omega,by omega,by omega⟩,⟨rfl,rfl,by omega⟩,⟨by omega,by omega,by omega,by omega⟩,trivial⟩ next
end Go.Aev.M44
end
section
namespace Go.Aev.M44
set_option maxRecDepth 1000000
open Go Go.Aev
noncomputable def RE8 (ns:List Int) (ex:Bool) (ns':List Int) (ts':List Bs) (o n m:Int) (nm u:Bs) (l:List Pr):AS:=(backG (SE8 ns ex o n m nm u l) [5,4,0,1,2,3] (B true) (YA ns' ts' (pB o n m nm u l))).getD (start (c8 [] []) 0 [] [])
def rowsOf (o:List Prop × Out):Aev.Rows:=match o.2 with
 | .done _ rows=>rows
 | _=>[]
theorem ec_call {ns:List Int} {ex:Bool} {o n m:Int} {nm u:Bs} {l:List Pr}:callAt (c8 [] []).cfg (SE8 ns ex o n m nm u l) = some (88,[.d (prC (.mk o nm n m u l)),.yl 0],EA ns ex (pB o n m nm u l),[5,4,0,1,2,3]):=by kernel_rfl
theorem ec_to {ns:List Int} {ex:Bool} {o n m:Int} {nm u:Bs} {l:List Pr}:sTo (c8 [] []) (hints []) (toCall 5) 300 (HE8 ns ex o n m nm u l) = ([],.next (SE8 ns ex o n m nm u l)):=by kernel_rfl
theorem ec_back {ns:List Int} {ex:Bool} {ns':List Int} {ts':List Bs} {o n m:Int} {nm u:Bs} {l:List Pr}:backG (SE8 ns ex o n m nm u l) [5,4,0,1,2,3] (B true) (YA ns' ts' (pB o n m nm u l)) = some (RE8 ns ex ns' ts' o n m nm u l):=by
 have hb:(backG (SE8 ns ex o n m nm u l) [5,4,0,1,2,3] (B true) (YA ns' ts' (pB o n m nm u l))).isSome = true:=by kernel_rfl
 obtain ⟨s',hs'⟩:=Option.isSome_iff_exists.1 hb
 unfold RE8
 rw [hs']; rfl
noncomputable def outE (ns:List Int) (ex:Bool) (ns':List Int) (ts':List Bs) (o n m:Int) (nm u:Bs) (l:List Pr) (bI bS:Bs):List Prop × Out:=sTo (c8 bI bS) (hints [] [] [] 1 false true) anyLoop 200 (RE8 ns ex ns' ts' o n m nm u l)
theorem ec_row {ns:List Int} {ex:Bool} {ns':List Int} {ts':List Bs} {o n m:Int} {nm u:Bs} {l:List Pr} {bI bS:Bs} :
  liveAt (rowsOf (outE ns ex ns' ts' o n m nm u l bI bS)) 12 = some (.dat 1 (List.take bI.length (List.drop 0 (bytesL bI)) ++ List.take bS.length (List.drop 0 (bytesL bS))) false):=by kernel_rfl
theorem ec_e {ns:List Int} {ex:Bool} {ns':List Int} {ts':List Bs} {o n m:Int} {nm u:Bs} {l:List Pr} {bI bS:Bs} {Q:V→Aev.Rows→Prop}
  (hp:AllP [List.length (ints ns') = List.length (ints ns'),isI (ints ns'),fits (List.length (ints ns')),all64 (ints ns'),eiIs (List.map M44.unI (ints ns')) bI,List.length (strs ts') = List.length (strs ts'),isS (strs ts'),fits (List.length (strs ts')),allSm (strs ts'),esIs (List.map unS (strs ts')) bS,small bS.length,1 = 1∧1 = 1∧0 + List.length bS ≤ List.length (bytesL bS),0 < 1∧List.length (List.take bS.length (List.drop (0) (bytesL bS))) ≠ 0∧1 = 1∧1 = 1∧0 + List.length bI ≤ List.length (bytesL bI)∧¬List.length bI + List.length (List.take bS.length (List.drop (0) (bytesL bS))) ≤ List.length bI∧2 * (List.length bI + List.length (List.take bS.length (List.drop (0) (bytesL bS)))) * 1 ≤ 281474976710656∧List.length bI + List.length (List.take bS.length (List.drop (0) (bytesL bS))) ≤ 4611686018427387904])
  (h:Q (V.sl (12) (1) (0) (List.length bI + List.length (List.take bS.length (List.drop (0) (bytesL bS)))) (List.length bI + List.length (List.take bS.length (List.drop (0) (bytesL bS)))) false) (rowsOf (outE ns ex ns' ts' o n m nm u l bI bS))):Ends (c8 bI bS) 0 (RE8 ns ex ns' ts' o n m nm u l) Q :=
 Ends.toFin (c8_ok bI bS) (hints [] [] [] 1 false true) anyLoop 200 (by kernel_rfl) hp h
theorem ec_end {ns:List Int} {ex:Bool} {ns':List Int} {ts':List Bs} {o n m:Int} {nm u:Bs} {l:List Pr} {bI bS:Bs} (h1:fits ns'.length) (h2:∀ x ∈ ns',in64 x) (h3:fits ts'.length) (h4:∀ x ∈ ts',small x.length) (hI:eInts ns' = bI) (hS:eStrs ts' = bS) (h5:small bS.length) :
  Ends (c8 bI bS) 0 (RE8 ns ex ns' ts' o n m nm u l) (fun v rows=>convV (liveAt rows) v = some (LB (bI ++ bS))):=by
 have eb:=bytesL_len bS
 have ei:=bytesL_len bI
 have h1':=h1
 unfold fits at h1'
 have h5':=h5
 unfold small at h5'
 have pS:1 ≤ bS.length:=by rw [← hS]; exact eStrs_pos ts'
 have pI:bI.length ≤ 10 * ns'.length + 10:=by rw [← hI]; exact eInts_len h2 h1
 have tS:List.take bS.length (List.drop 0 (bytesL bS)) = bytesL bS:=take_all
 have tI:List.take bI.length (List.drop 0 (bytesL bI)) = bytesL bI:=take_all
 refine ec_e ⟨rfl,isI_ints _,by rw [ints_len]; exact h1,by unfold all64; rw [unI_ints]; exact h2,by unfold eiIs; rw [unI_ints]; exact hI,rfl,isS_strs _,by rw [strs_len]; exact h3,by unfold allSm; rw [unS_strs]; exact h4,by unfold esIs; rw [unS_strs]; exact hS,h5,
  ⟨rfl,rfl,by omega⟩,by rw [tS]; refine ⟨by omega,by omega,rfl,rfl,by omega,by omega,by omega,by omega⟩,trivial⟩ ?_
 have hr:=ec_row (ns:=ns) (ex:=ex) (ns':=ns') (ts':=ts') (o:=o) (n:=n) (m:=m) (nm:=nm) (u:=u) (l:=l) (bI:=bI) (bS:=bS)
 rw [tS,tI] at hr
 rw [tS]
 have:=conv_slk (n:=bI.length + (bytesL bS).length) (c:=bI.length + (bytesL bS).length) (ex:=false) hr (by rw [List.length_append]; omega)
 rw [List.take_of_length_le (by rw [List.length_append]; omega)] at this
 have eL:LB (bI ++ bS) = .d (.list (bytesL bI ++ bytesL bS)):=by rw [LB,bytesL_append]
 rw [eL]
 exact this
theorem ec_go {ns:List Int} {ex:Bool} {o n m:Int} {nm u:Bs} {l:List Pr} (hn:ns.length ≤ 1000000) (hl:(parts (.mk o nm n m u l)).length ≤ 100000) (h1:∀ x ∈ ns ++ nums (parts (.mk o nm n m u l)),in64 x) (h2:∀ x ∈ txts (parts (.mk o nm n m u l)),small x.length) (h5:small (eStrs (txts (parts (.mk o nm n m u l)))).length) :
  Ends (c8 [] []) 0 (HE8 ns ex o n m nm u l) (fun v rows=>convV (liveAt rows) v = some (LB (eInts (ns ++ nums (parts (.mk o nm n m u l))) ++ eStrs (txts (parts (.mk o nm n m u l)))))):=by
 have e1:=nums_len (parts (.mk o nm n m u l))
 have e2:=txts_len (parts (.mk o nm n m u l))
 refine Ends.to (c8_ok [] []) (hints []) (toCall 5) 300 ec_to trivial ?_
 refine Ends.callG (c8_ok [] []) ec_call (each_a (by omega) (by omega)) ?_
 rintro v rows' ⟨rfl,rfl⟩
 refine ⟨_,ec_back,?_⟩
 exact Ends.cfg rfl (ec_end (by rw [List.length_append]; unfold fits; omega) h1 (by unfold fits; omega) h2 rfl rfl h5)
theorem wire_enc {q:Qy} (h:QOK q (parts q.p)) (hl:(parts q.p).length ≤ 100000):RCs PP 8 [.d (.agg (qC q))] [] (LB (encQ q (parts q.p))):=by
 obtain ⟨vec,k,w,d,c,g,p⟩:=q
 obtain ⟨o,nm,n,m,u,l⟩:=p
 have hv:=h.vec
 simp only at hv
 have hlen:(hdN ⟨vec,k,w,d,c,g,.mk o nm n m u l⟩).length ≤ 1000000:=by unfold hdN; simp; omega
 have ev:=ints_len vec
 refine rcs_of (c8_ok [] []) (by kernel_rfl) ?_
 have fst:=fun (ex:Bool)=>ec_go (ex:=ex) hlen hl h.num h.txt h.siz
 have hi:ints (hdN ⟨vec,k,w,d,c,g,.mk o nm n m u l⟩) = D.int IntKind.i64 k :: D.int IntKind.i64 w :: D.int IntKind.i64 d :: D.int IntKind.i64 c :: D.int IntKind.i64 g :: D.int IntKind.i64 ((ints vec).length:Int) :: ints vec:=by rw [ev]; rfl
 cases vec with
 | nil =>
  refine ec_z ⟨rfl,⟨by omega,rfl⟩,trivial⟩ ?_
  exact fst true
 | cons x vs =>
  have ev':(ints (x :: vs)).length = vs.length + 1:=by rw [ints_len]; rfl
  have hv':vs.length + 1 ≤ 900000:=hv
  refine ec_a ⟨ints_all1 _,⟨by omega,by rw [ev']; omega,rfl,rfl,by omega,by rw [ev']; omega,by rw [ev']; omega,by rw [ev']; omega⟩,trivial⟩ ?_
  have f:=fst false
  unfold HE8 at f
  rw [hi] at f
  have hl:(D.int IntKind.i64 k :: D.int IntKind.i64 w :: D.int IntKind.i64 d :: D.int IntKind.i64 c :: D.int IntKind.i64 g :: D.int IntKind.i64 ((ints (x :: vs)).length:Int) :: ints (x :: vs)).length = 6 + (ints (x :: vs)).length:=by simp; omega
  rw [hl] at f
  exact f
end Go.Aev.M44
end
section
set_option maxRecDepth 1000000
set_option linter.unusedVariables false
namespace Go.Aev.M44
open Go Go.Aev
end Go.Aev.M44
namespace Go.Aev.M44
theorem fq_t {vec:List Int} {k w d c g o n m:Int} {nm u:Bs} {l:List Pr} (hF:FwOK 20 (.mk o nm n m u l)) {Q:V→Aev.Rows→Prop} (hp:AllP [prIs (D.agg [D.int IntKind.i64 o,strD nm,D.int IntKind.i64 n,D.int IntKind.i64 m,strD u,D.list (prDs l)]) (Pr.mk o nm n m u l),(20:Int) = (20:Int),fwIs (20) (Pr.mk o nm n m u l) true]) (h:Q (V.d (D.bool (decide ((↑(List.length (ints vec)):Int) ≤ (40:Int))))) ([Slot.live (Row.box [V.d (D.list (ints vec)),I k,I w,I o,V.d (D.str { data:={ toList:=nm } }),I n,I m,V.d (D.str { data:={ toList:=u } }),V.d (D.list (prDs l)),I d,I c,I g] false)])):Ends (cFw zeroP 0 (.mk o nm n m u l) 20 true) 0 (start (cFw zeroP 0 (.mk o nm n m u l) 20 true) 9 [qA vec k w d c g o n m nm u l] []) Q :=
 Ends.toFin (cFw_ok hF) (hints [] [] [] 0 false true) anyLoop 140 (by kernel_rfl) hp h
theorem fq_f {vec:List Int} {k w d c g o n m:Int} {nm u:Bs} {l:List Pr} (hF:FwOK 20 (.mk o nm n m u l)) {Q:V→Aev.Rows→Prop} (hp:AllP [prIs (D.agg [D.int IntKind.i64 o,strD nm,D.int IntKind.i64 n,D.int IntKind.i64 m,strD u,D.list (prDs l)]) (Pr.mk o nm n m u l),(20:Int) = (20:Int),fwIs (20) (Pr.mk o nm n m u l) false]) (h:Q (V.d (D.bool false)) ([Slot.live (Row.box [V.d (D.list (ints vec)),I k,I w,I o,V.d (D.str { data:={ toList:=nm } }),I n,I m,V.d (D.str { data:={ toList:=u } }),V.d (D.list (prDs l)),I d,I c,I g] false)])):Ends (cFw zeroP 0 (.mk o nm n m u l) 20 false) 0 (start (cFw zeroP 0 (.mk o nm n m u l) 20 false) 9 [qA vec k w d c g o n m nm u l] []) Q :=
 Ends.toFin (cFw_ok hF) (hints [] [] [] 0 false true) anyLoop 140 (by kernel_rfl) hp h
end Go.Aev.M44
end
section
namespace Go.Aev.M44
set_option maxRecDepth 1000000
open Go Go.Aev
def fewQ (q:Qy):Bool:=fewP 20 q.p && decide (q.vec.length ≤ 40)
theorem fewq_ok (q:Qy):RCs PP 9 [.d (.agg (qC q))] [] (B (fewQ q)):=by
 obtain ⟨vec,k,w,d,c,g,o,nm,n,m,u,l⟩:=q
 have hF:=fw_ok 20 (.mk o nm n m u l) (by omega)
 have ev:=ints_len vec
 cases hb:fewP 20 (.mk o nm n m u l) with
 | true =>
  refine rcs_of (cFw_ok (p0:=zeroP) (z:=0) (b:=true) hF) (by kernel_rfl) (fq_t hF ⟨rfl,rfl,hb,trivial⟩ ?_)
  have:fewQ ⟨vec,k,w,d,c,g,.mk o nm n m u l⟩ = decide (((ints vec).length:Int) ≤ (40:Int)):=by
   unfold fewQ
   show (fewP 20 (.mk o nm n m u l) && decide (vec.length ≤ 40)) = _
   rw [hb,Bool.true_and,ev]
   by_cases h:vec.length ≤ 40
   ·rw [decide_eq_true h,decide_eq_true (by omega)]
   ·rw [decide_eq_false h,decide_eq_false (by omega)]
  rw [this]; rfl
 | false =>
  refine rcs_of (cFw_ok (p0:=zeroP) (z:=0) (b:=false) hF) (by kernel_rfl) (fq_f hF ⟨rfl,rfl,hb,trivial⟩ ?_)
  have:fewQ ⟨vec,k,w,d,c,g,.mk o nm n m u l⟩ = false:=by
   unfold fewQ
   show (fewP 20 (.mk o nm n m u l) && _) = _
   rw [hb]; rfl
  rw [this]; rfl
end Go.Aev.M44
end
section
namespace Go.Aev.M44
set_option maxRecDepth 1000000
open Go Go.Aev
theorem strD_inj {a b:Bs} (h:strD a = strD b):a = b:=by
 unfold strD at h
 injection h with h
 injection h with h
 injection h with h
mutual
theorem prD_inj:∀ (p p':Pr),prD p = prD p'→p = p'
 | .mk o nm n m u l,.mk o' nm' n' m' u' l',h=>by
  simp only [prD] at h
  injection h with h
  injection h with h1 h
  injection h with h2 h
  injection h with h3 h
  injection h with h4 h
  injection h with h5 h
  injection h with h6 _
  injection h1 with _ h1
  injection h3 with _ h3
  injection h4 with _ h4
  injection h6 with h6
  rw [h1,strD_inj h2,h3,h4,strD_inj h5,prDs_inj l l' h6]
theorem prDs_inj:∀ (l l':List Pr),prDs l = prDs l'→l = l'
 | [],[],_=>rfl
 | [],p :: r,h=>by simp [prDs] at h
 | p :: r,[],h=>by simp [prDs] at h
 | p :: r,p' :: r',h=>by
  simp only [prDs] at h
  injection h with h1 h2
  rw [prD_inj p p' h1,prDs_inj r r' h2]
end
theorem ints_inj {a b:List Int} (h:ints a = ints b):a = b:=by
 have:=congrArg (List.map unI) h
 rwa [unI_ints,unI_ints] at this
theorem qC_inj {a b:Qy} (h:qC a = qC b):a = b:=by
 obtain ⟨vec,k,w,d,c,g,o,nm,n,m,u,l⟩:=a
 obtain ⟨vec',k',w',d',c',g',o',nm',n',m',u',l'⟩:=b
 simp only [qC,Pr.op,Pr.name,Pr.n,Pr.m,Pr.s,Pr.subs] at h
 injection h with h1 h
 injection h with h2 h
 injection h with h3 h
 injection h with h4 h
 injection h with h5 h
 injection h with h6 h
 injection h with h7 h
 injection h with h8 h
 injection h with h9 h
 injection h with h10 h
 injection h with h11 h
 injection h with h12 _
 injection h1 with h1
 injection h2 with _ h2
 injection h3 with _ h3
 injection h4 with _ h4
 injection h6 with _ h6
 injection h7 with _ h7
 injection h9 with h9
 injection h10 with _ h10
 injection h11 with _ h11
 injection h12 with _ h12
 rw [ints_inj h1,h2,h3,h4,strD_inj h5,h6,h7,strD_inj h8,prDs_inj _ _ h9,h10,h11,h12]
open Classical in
noncomputable def unQ (cs:List D):Qy:=if h:∃ q,qC q = cs then Classical.choose h else ⟨[],0,0,0,0,0,zeroP⟩
theorem unQ_qC (q:Qy):unQ (qC q) = q:=by
 have h:∃ q',qC q' = qC q:=⟨q,rfl⟩
 unfold unQ
 rw [dif_pos h]
 exact qC_inj (Classical.choose_spec h)
noncomputable def encC (cs:List D):Bs:=encQ (unQ cs) (ptC (unQ cs).p)
def qIs (cs:List D):Prop:=∃ q,qC q = cs∧QOK q (ptC q.p)
noncomputable def tabSq (g:FuncId) (args:List V) (rows:Aev.Rows):Option (List Prop × V) :=
 match g,args,rows with
 | 11,[.d (.agg cs)],[]=>some ([qIs cs],LB (encC cs))
 | _,_,_=>none
noncomputable def cSq:SCfg:=mk (fun _=>true) tabSq
theorem tabSq_ok:TableOK cSq:=by
 intro g args rows ps v h hps
 change tabSq g args rows = _ at h
 unfold tabSq at h
 split at h
 ·cases h
  obtain ⟨⟨q,rfl,hq⟩,_⟩:=hps
  unfold encC
  rw [unQ_qC]
  exact ref_enc hq
 ·cases h
theorem cSq_ok:COK cSq.cfg:=mk_ok tabSq_ok
end Go.Aev.M44
end
section
set_option maxRecDepth 1000000
set_option linter.unusedVariables false
namespace Go.Aev.M44
open Go Go.Aev
end Go.Aev.M44
namespace Go.Aev.M44
theorem sq_2 {vec:List Int} {k w d c g o n m:Int} {nm u:Bs} {l:List Pr} {vec':List Int} {k' w' d' c' g' o' n' m':Int} {nm' u':Bs} {l':List Pr} {Q:V→Aev.Rows→Prop} (hp:AllP [qIs [D.list (ints vec),D.int IntKind.i64 k,D.int IntKind.i64 w,D.int IntKind.i64 o,strD nm,D.int IntKind.i64 n,D.int IntKind.i64 m,strD u,D.list (prDs l),D.int IntKind.i64 d,D.int IntKind.i64 c,D.int IntKind.i64 g],bytesL (encC [D.list (ints vec),D.int IntKind.i64 k,D.int IntKind.i64 w,D.int IntKind.i64 o,strD nm,D.int IntKind.i64 n,D.int IntKind.i64 m,strD u,D.list (prDs l),D.int IntKind.i64 d,D.int IntKind.i64 c,D.int IntKind.i64 g]) = bytesL (List.map unB (bytesL (encC [D.list (ints vec),D.int IntKind.i64 k,D.int IntKind.i64 w,D.int IntKind.i64 o,strD nm,D.int IntKind.i64 n,D.int IntKind.i64 m,strD u,D.list (prDs l),D.int IntKind.i64 d,D.int IntKind.i64 c,D.int IntKind.i64 g]))),qIs [D.list (ints vec'),D.int IntKind.i64 k',D.int IntKind.i64 w',D.int IntKind.i64 o',strD nm',D.int IntKind.i64 n',D.int IntKind.i64 m',strD u',D.list (prDs l'),D.int IntKind.i64 d',D.int IntKind.i64 c',D.int IntKind.i64 g'],bytesL (encC [D.list (ints vec'),D.int IntKind.i64 k',D.int IntKind.i64 w',D.int IntKind.i64 o',strD nm',D.int IntKind.i64 n',D.int IntKind.i64 m',strD u',D.list (prDs l'),D.int IntKind.i64 d',D.int IntKind.i64 c',D.int IntKind.i64 g']) = bytesL (List.map unB (bytesL (encC [D.list (ints vec'),D.int IntKind.i64 k',D.int IntKind.i64 w',D.int IntKind.i64 o',strD nm',D.int IntKind.i64 n',D.int IntKind.i64 m',strD u',D.list (prDs l'),D.int IntKind.i64 d',D.int IntKind.i64 c',D.int IntKind.i64 g'])))]) (h:Q (V.d (D.bool (ByteArray.toList { data:=List.toArray (List.map unB (bytesL (encC [D.list (ints vec),D.int IntKind.i64 k,D.int IntKind.i64 w,D.int IntKind.i64 o,strD nm,D.int IntKind.i64 n,D.int IntKind.i64 m,strD u,D.list (prDs l),D.int IntKind.i64 d,D.int IntKind.i64 c,D.int IntKind.i64 g]))) } == ByteArray.toList { data:=List.toArray (List.map unB (bytesL (encC [D.list (ints vec'),D.int IntKind.i64 k',D.int IntKind.i64 w',D.int IntKind.i64 o',strD nm',D.int IntKind.i64 n',D.int IntKind.i64 m',strD u',D.list (prDs l'),D.int IntKind.i64 d',D.int IntKind.i64 c',D.int IntKind.i64 g']))) }))) ([Slot.live (Row.box [V.d (D.list (ints vec)),I k,I w,I o,V.d (D.str { data:={ toList:=nm } }),I n,I m,V.d (D.str { data:={ toList:=u } }),V.d (D.list (prDs l)),I d,I c,I g] false),Slot.live (Row.box [V.d (D.list (ints vec')),I k',I w',I o',V.d (D.str { data:={ toList:=nm' } }),I n',I m',V.d (D.str { data:={ toList:=u' } }),V.d (D.list (prDs l')),I d',I c',I g'] false)])):Ends cSq 0 (start cSq 7 [qA vec k w d c g o n m nm u l,qA vec' k' w' d' c' g' o' n' m' nm' u' l'] []) Q :=
 Ends.toFin cSq_ok (hints [] [] [] 0 false true) anyLoop 140 (by kernel_rfl) hp h
end Go.Aev.M44
end
section
namespace Go.Aev.M44
set_option maxRecDepth 1000000
open Go Go.Aev
theorem same_ok {q:Qy} (h:QOK q (ptC q.p)):RCs PP 7 [.d (.agg (qC q)),.d (.agg (qC q))] [] (B true):=by
 obtain ⟨vec,k,w,d,c,g,o,nm,n,m,u,l⟩:=q
 have e:∀ b:Bs,bytesL b = bytesL (List.map unB (bytesL b)):=fun b=>by rw [unB_bytes]
 refine rcs_of cSq_ok (by kernel_rfl) (sq_2 ⟨⟨_,rfl,h⟩,e _,⟨_,rfl,h⟩,e _,trivial⟩ ?_)
 rw [beq_self_eq_true]
 rfl
end Go.Aev.M44
end
section
namespace Go.Aev.M44
set_option maxRecDepth 1000000
open Go Go.Aev
def SanOK:Prop:=RCs PP 4 [] [] (B true)
def bIs (x:D) (b:Bs):Prop:=x = .list (bytesL b)
def qyIs (x:D) (q:Qy):Prop:=x = .agg (qC q)
def dqIs (b:Bs) (r:Except Nat Qy):Prop:=dq b = r
def fits' (b:Bs):Prop:=fits b.length
def okR (q:Qy):Prop:=QOK q (ptC q.p)
def okW (q:Qy):Prop:=QOK q (parts q.p)∧(parts q.p).length ≤ 100000
def wIs (q:Qy) (w:Bs):Prop:=encQ q (parts q.p) = w
def rIs (q:Qy) (w:Bs):Prop:=encQ q (ptC q.p) = w
def fqIs (q:Qy) (f:Bool):Prop:=fewQ q = f
def tabLaw (b:Bs) (r:Except Nat Qy) (q:Qy) (w:Bs) (f:Bool) (z:Int) (g:FuncId) (args:List V) (rows:Aev.Rows):Option (List Prop × V) :=
 match g,args,rows with
 | 4,[],[]=>some ([],B true)
 | 5,[.d x],[]=>some ([bIs x b,fits' b,dqIs b r],dqV r)
 | 6,[.d x],[]=>some ([bIs x b,fits' b,dqIs b r],rqV r)
 | 7,[.d x,.d y],[]=>some ([qyIs x q,qyIs y q,okR q],B true)
 | 8,[.d x],[]=>some ([qyIs x q,okW q,wIs q w],LB w)
 | 9,[.d x],[]=>some ([qyIs x q,fqIs q f],B f)
 | 10,[.d x],[]=>some ([prIs x q.p,szIs q.p z],I z)
 | 11,[.d x],[]=>some ([qyIs x q,okR q,rIs q w],LB w)
 | _,_,_=>none
noncomputable def cLaw (b:Bs) (r:Except Nat Qy) (q:Qy) (w:Bs) (f:Bool) (z:Int):SCfg:=mk (fun _=>true) (tabLaw b r q w f z)
theorem tabLaw_ok (hS:SanOK) {b:Bs} {r:Except Nat Qy} {q:Qy} {w:Bs} {f:Bool} {z:Int}:TableOK (cLaw b r q w f z):=by
 intro g args rows ps v h hps
 change tabLaw b r q w f z g args rows = _ at h
 unfold tabLaw at h
 split at h
 ·cases h; exact hS
 ·cases h
  obtain ⟨h1,h2,h3,_⟩:=hps
  unfold bIs at h1; unfold fits' at h2; unfold dqIs at h3
  subst h1; subst h3
  exact wire_dq h2
 ·cases h
  obtain ⟨h1,h2,h3,_⟩:=hps
  unfold bIs at h1; unfold fits' at h2; unfold dqIs at h3
  subst h1; subst h3
  exact ref_dq h2
 ·cases h
  obtain ⟨h1,h2,h3,_⟩:=hps
  unfold qyIs at h1 h2; unfold okR at h3
  subst h1; subst h2
  exact same_ok h3
 ·cases h
  obtain ⟨h1,h2,h3,_⟩:=hps
  unfold qyIs at h1; unfold okW at h2; unfold wIs at h3
  subst h1; subst h3
  exact wire_enc h2.1 h2.2
 ·cases h
  obtain ⟨h1,h2,_⟩:=hps
  unfold qyIs at h1; unfold fqIs at h2
  subst h1; subst h2
  exact fewq_ok q
 ·cases h
  obtain ⟨h1,h2,_⟩:=hps
  unfold prIs at h1; unfold szIs at h2
  subst h1; subst h2
  exact size_ok q.p
 ·cases h
  obtain ⟨h1,h2,h3,_⟩:=hps
  unfold qyIs at h1; unfold okR at h2; unfold rIs at h3
  subst h1; subst h3
  exact ref_enc h2
 ·cases h
theorem cLaw_ok (hS:SanOK) (b:Bs) (r:Except Nat Qy) (q:Qy) (w:Bs) (f:Bool) (z:Int):COK (cLaw b r q w f z).cfg:=mk_ok (tabLaw_ok hS)
end Go.Aev.M44
end
section
set_option maxRecDepth 1000000
set_option linter.unusedVariables false
namespace Go.Aev.M44
open Go Go.Aev
noncomputable def tdL:List AItem:=(nextOf (sTo (cLaw [] (.error 1) ⟨[],0,0,0,0,0,zeroP⟩ [] false 0) (hints [(14,false),(26,false),(27,false),(29,false),(30,false),(36,false),(44,false),(45,false)]) (toCall 47) 300 (start (cLaw [] (.error 1) ⟨[],0,0,0,0,0,zeroP⟩ [] false 0) 3 [qA [] 0 0 0 0 0 0 0 0 [] [] [],LB []] []))).fr.todo
noncomputable def HLaw (vec:List Int) (k w d c g o n m:Int) (nm u:Bs) (l:List Pr):AS:=hd 3 tdL 82 [(2,.pt 0 0 0 0),(46,.d (.agg (qC ⟨vec,k,w,d,c,g,.mk o nm n m u l⟩)))] [.live (.box [.d (.list (ints vec)),I k,I w,I o,.d (strD nm),I n,I m,.d (strD u),.d (.list (prDs l)),I d,I c,I g] false)]
end Go.Aev.M44
namespace Go.Aev.M44
theorem la_s (hS:SanOK) {vec:List Int} {k w d c g o n m:Int} {nm u:Bs} {l:List Pr} {b:Bs} {Q:V→Aev.Rows→Prop} (hp:AllP [decide ((↑(List.length (bytesL b)):Int) > (2000:Int)) = true]) (h:Q (V.d (D.bool true)) ([Slot.live (Row.box [V.d (D.list (ints vec)),I k,I w,I o,V.d (D.str { data:={ toList:=nm } }),I n,I m,V.d (D.str { data:={ toList:=u } }),V.d (D.list (prDs l)),I d,I c,I g] false)])):Ends (cLaw b (.error 1) ⟨vec,k,w,d,c,g,.mk o nm n m u l⟩ [] false 0) 0 (start (cLaw b (.error 1) ⟨vec,k,w,d,c,g,.mk o nm n m u l⟩ [] false 0) 3 [qA vec k w d c g o n m nm u l,LB b] []) Q :=
 Ends.toFin (cLaw_ok hS b (.error 1) ⟨vec,k,w,d,c,g,.mk o nm n m u l⟩ [] false 0) (hints [(14,true)] [] [] 0 false true) (toCall 47) 200 (by kernel_rfl) hp h
theorem la_e (hS:SanOK) {vec:List Int} {k w d c g o n m:Int} {nm u:Bs} {l:List Pr} {b:Bs} {e:Nat} {Q:V→Aev.Rows→Prop} (hp:AllP [decide ((↑(List.length (bytesL b)):Int) > (2000:Int)) = false,bIs (D.list (bytesL b)) b,fits' b,dqIs b (Except.error e),bIs (D.list (bytesL b)) b,fits' b,dqIs b (Except.error e),((↑e:Int) != (↑e:Int)) = false,((↑e:Int) != (↑e:Int)) = false,((↑e:Int) != (↑e:Int)) = false,((↑e:Int) == (0:Int)) = false,((↑e:Int) == (0:Int)) = false,((↑e:Int) == (0:Int)) = false,((↑e:Int) == (0:Int)) = false,((↑e:Int) == (0:Int)) = false,((↑e:Int) == (0:Int)) = false,((↑e:Int) == (0:Int)) = false,((↑e:Int) != (↑e:Int)) = false,((↑e:Int) == (0:Int)) = false,((↑e:Int) != (↑e:Int)) = false,false = false]) (h:Ends (cLaw b (.error e) ⟨vec,k,w,d,c,g,.mk o nm n m u l⟩ [] false 0) 0 (hd 3 tdL 82 [(2,V.pt (0) (0) (0) (0)),(46,V.d (D.agg [D.list (ints vec),D.int IntKind.i64 k,D.int IntKind.i64 w,D.int IntKind.i64 o,D.str { data:={ toList:=nm } },D.int IntKind.i64 n,D.int IntKind.i64 m,D.str { data:={ toList:=u } },D.list (prDs l),D.int IntKind.i64 d,D.int IntKind.i64 c,D.int IntKind.i64 g]))] [Slot.live (Row.box [V.d (D.list (ints vec)),I k,I w,I o,V.d (D.str { data:={ toList:=nm } }),I n,I m,V.d (D.str { data:={ toList:=u } }),V.d (D.list (prDs l)),I d,I c,I g] false)]) Q):Ends (cLaw b (.error e) ⟨vec,k,w,d,c,g,.mk o nm n m u l⟩ [] false 0) 0 (start (cLaw b (.error e) ⟨vec,k,w,d,c,g,.mk o nm n m u l⟩ [] false 0) 3 [qA vec k w d c g o n m nm u l,LB b] []) Q :=
  Ends.turn (cLaw_ok hS b (.error e) ⟨vec,k,w,d,c,g,.mk o nm n m u l⟩ [] false 0) (hints [(14,false),(26,false),(27,false),(29,false),(30,false),(36,false),(44,false),(45,false)] [] [] 0 false true) (toCall 47) 200 [0] [2,
 46] (by kernel_rfl) hp h
theorem la_k (hS:SanOK) {vec:List Int} {k w d c g o n m:Int} {nm u:Bs} {l:List Pr} {vec1:List Int} {k1 w1 d1 c1 g1 o1 n1 m1:Int} {nm1 u1:Bs} {l1:List Pr} {b:Bs} {Q:V→Aev.Rows→Prop} (hp:AllP [decide ((↑(List.length (bytesL b)):Int) > (2000:Int)) = false,bIs (D.list (bytesL b)) b,fits' b,dqIs b (Except.ok { vec:=vec1,k:=k1,w:=w1,d:=d1,c:=c1,g:=g1,p:=Pr.mk o1 nm1 n1 m1 u1 l1 }),bIs (D.list (bytesL b)) b,fits' b,dqIs b (Except.ok { vec:=vec1,k:=k1,w:=w1,d:=d1,c:=c1,g:=g1,p:=Pr.mk o1 nm1 n1 m1 u1 l1 }),false = false,false = false,false = false,true = true,true = true,true = true,true = true,qyIs (D.agg [D.list (ints (Qy.vec { vec:=vec1,k:=k1,w:=w1,d:=d1,c:=c1,g:=g1,p:=Pr.mk o1 nm1 n1 m1 u1 l1 })),D.int IntKind.i64 (Qy.k { vec:=vec1,k:=k1,w:=w1,d:=d1,c:=c1,g:=g1,p:=Pr.mk o1 nm1 n1 m1 u1 l1 }),D.int IntKind.i64 (Qy.w { vec:=vec1,k:=k1,w:=w1,d:=d1,c:=c1,g:=g1,p:=Pr.mk o1 nm1 n1 m1 u1 l1 }),D.int IntKind.i64 (Pr.op (Qy.p { vec:=vec1,k:=k1,w:=w1,d:=d1,c:=c1,g:=g1,p:=Pr.mk o1 nm1 n1 m1 u1 l1 })),strD (Pr.name (Qy.p { vec:=vec1,k:=k1,w:=w1,d:=d1,c:=c1,g:=g1,p:=Pr.mk o1 nm1 n1 m1 u1 l1 })),D.int IntKind.i64 (Pr.n (Qy.p { vec:=vec1,k:=k1,w:=w1,d:=d1,c:=c1,g:=g1,p:=Pr.mk o1 nm1 n1 m1 u1 l1 })),D.int IntKind.i64 (Pr.m (Qy.p { vec:=vec1,k:=k1,w:=w1,d:=d1,c:=c1,g:=g1,p:=Pr.mk o1 nm1 n1 m1 u1 l1 })),strD (Pr.s (Qy.p { vec:=vec1,k:=k1,w:=w1,d:=d1,c:=c1,g:=g1,p:=Pr.mk o1 nm1 n1 m1 u1 l1 })),D.list (prDs (Pr.subs (Qy.p { vec:=vec1,k:=k1,w:=w1,d:=d1,c:=c1,g:=g1,p:=Pr.mk o1 nm1 n1 m1 u1 l1 }))),D.int IntKind.i64 (Qy.d { vec:=vec1,k:=k1,w:=w1,d:=d1,c:=c1,g:=g1,p:=Pr.mk o1 nm1 n1 m1 u1 l1 }),D.int IntKind.i64 (Qy.c { vec:=vec1,k:=k1,w:=w1,d:=d1,c:=c1,g:=g1,p:=Pr.mk o1 nm1 n1 m1 u1 l1 }),D.int IntKind.i64 (Qy.g { vec:=vec1,k:=k1,w:=w1,d:=d1,c:=c1,g:=g1,p:=Pr.mk o1 nm1 n1 m1 u1 l1 })]) { vec:=vec1,k:=k1,w:=w1,d:=d1,c:=c1,g:=g1,p:=Pr.mk o1 nm1 n1 m1 u1 l1 },qyIs (D.agg [D.list (ints (Qy.vec { vec:=vec1,k:=k1,w:=w1,d:=d1,c:=c1,g:=g1,p:=Pr.mk o1 nm1 n1 m1 u1 l1 })),D.int IntKind.i64 (Qy.k { vec:=vec1,k:=k1,w:=w1,d:=d1,c:=c1,g:=g1,p:=Pr.mk o1 nm1 n1 m1 u1 l1 }),D.int IntKind.i64 (Qy.w { vec:=vec1,k:=k1,w:=w1,d:=d1,c:=c1,g:=g1,p:=Pr.mk o1 nm1 n1 m1 u1 l1 }),D.int IntKind.i64 (Pr.op (Qy.p { vec:=vec1,k:=k1,w:=w1,d:=d1,c:=c1,g:=g1,p:=Pr.mk o1 nm1 n1 m1 u1 l1 })),strD (Pr.name (Qy.p { vec:=vec1,k:=k1,w:=w1,d:=d1,c:=c1,g:=g1,p:=Pr.mk o1 nm1 n1 m1 u1 l1 })),D.int IntKind.i64 (Pr.n (Qy.p { vec:=vec1,k:=k1,w:=w1,d:=d1,c:=c1,g:=g1,p:=Pr.mk o1 nm1 n1 m1 u1 l1 })),D.int IntKind.i64 (Pr.m (Qy.p { vec:=vec1,k:=k1,w:=w1,d:=d1,c:=c1,g:=g1,p:=Pr.mk o1 nm1 n1 m1 u1 l1 })),strD (Pr.s (Qy.p { vec:=vec1,k:=k1,w:=w1,d:=d1,c:=c1,g:=g1,p:=Pr.mk o1 nm1 n1 m1 u1 l1 })),D.list (prDs (Pr.subs (Qy.p { vec:=vec1,k:=k1,w:=w1,d:=d1,c:=c1,g:=g1,p:=Pr.mk o1 nm1 n1 m1 u1 l1 }))),D.int IntKind.i64 (Qy.d { vec:=vec1,k:=k1,w:=w1,d:=d1,c:=c1,g:=g1,p:=Pr.mk o1 nm1 n1 m1 u1 l1 }),D.int IntKind.i64 (Qy.c { vec:=vec1,k:=k1,w:=w1,d:=d1,c:=c1,g:=g1,p:=Pr.mk o1 nm1 n1 m1 u1 l1 }),D.int IntKind.i64 (Qy.g { vec:=vec1,k:=k1,w:=w1,d:=d1,c:=c1,g:=g1,p:=Pr.mk o1 nm1 n1 m1 u1 l1 })]) { vec:=vec1,k:=k1,w:=w1,d:=d1,c:=c1,g:=g1,p:=Pr.mk o1 nm1 n1 m1 u1 l1 },okR { vec:=vec1,k:=k1,w:=w1,d:=d1,c:=c1,g:=g1,p:=Pr.mk o1 nm1 n1 m1 u1 l1 },true = true,true = true,false = false,false = false,qyIs (D.agg [D.list (ints (Qy.vec { vec:=vec1,k:=k1,w:=w1,d:=d1,c:=c1,g:=g1,p:=Pr.mk o1 nm1 n1 m1 u1 l1 })),D.int IntKind.i64 (Qy.k { vec:=vec1,k:=k1,w:=w1,d:=d1,c:=c1,g:=g1,p:=Pr.mk o1 nm1 n1 m1 u1 l1 }),D.int IntKind.i64 (Qy.w { vec:=vec1,k:=k1,w:=w1,d:=d1,c:=c1,g:=g1,p:=Pr.mk o1 nm1 n1 m1 u1 l1 }),D.int IntKind.i64 (Pr.op (Qy.p { vec:=vec1,k:=k1,w:=w1,d:=d1,c:=c1,g:=g1,p:=Pr.mk o1 nm1 n1 m1 u1 l1 })),strD (Pr.name (Qy.p { vec:=vec1,k:=k1,w:=w1,d:=d1,c:=c1,g:=g1,p:=Pr.mk o1 nm1 n1 m1 u1 l1 })),D.int IntKind.i64 (Pr.n (Qy.p { vec:=vec1,k:=k1,w:=w1,d:=d1,c:=c1,g:=g1,p:=Pr.mk o1 nm1 n1 m1 u1 l1 })),D.int IntKind.i64 (Pr.m (Qy.p { vec:=vec1,k:=k1,w:=w1,d:=d1,c:=c1,g:=g1,p:=Pr.mk o1 nm1 n1 m1 u1 l1 })),strD (Pr.s (Qy.p { vec:=vec1,k:=k1,w:=w1,d:=d1,c:=c1,g:=g1,p:=Pr.mk o1 nm1 n1 m1 u1 l1 })),D.list (prDs (Pr.subs (Qy.p { vec:=vec1,k:=k1,w:=w1,d:=d1,c:=c1,g:=g1,p:=Pr.mk o1 nm1 n1 m1 u1 l1 }))),D.int IntKind.i64 (Qy.d { vec:=vec1,k:=k1,w:=w1,d:=d1,c:=c1,g:=g1,p:=Pr.mk o1 nm1 n1 m1 u1 l1 }),D.int IntKind.i64 (Qy.c { vec:=vec1,k:=k1,w:=w1,d:=d1,c:=c1,g:=g1,p:=Pr.mk o1 nm1 n1 m1 u1 l1 }),D.int IntKind.i64 (Qy.g { vec:=vec1,k:=k1,w:=w1,d:=d1,c:=c1,g:=g1,p:=Pr.mk o1 nm1 n1 m1 u1 l1 })]) { vec:=vec1,k:=k1,w:=w1,d:=d1,c:=c1,g:=g1,p:=Pr.mk o1 nm1 n1 m1 u1 l1 },okW { vec:=vec1,k:=k1,w:=w1,d:=d1,c:=c1,g:=g1,p:=Pr.mk o1 nm1 n1 m1 u1 l1 },wIs { vec:=vec1,k:=k1,w:=w1,d:=d1,c:=c1,g:=g1,p:=Pr.mk o1 nm1 n1 m1 u1 l1 } b,false = false,bytesL b = bytesL (List.map unB (bytesL b)),false = false,false = false,bytesL b = bytesL (List.map unB (bytesL b)),false = false,true = true,false = false,false = false,true = true,false = false,(!ByteArray.toList { data:=List.toArray (List.map unB (bytesL b)) } == ByteArray.toList { data:=List.toArray (List.map unB (bytesL b)) }) = false]) (h:Ends (cLaw b (.ok ⟨vec1,k1,w1,d1,c1,g1,.mk o1 nm1 n1 m1 u1 l1⟩) ⟨vec1,k1,w1,d1,c1,g1,.mk o1 nm1 n1 m1 u1 l1⟩ b false 0) 0 (hd 3 tdL 82 [(2,V.pt (0) (0) (0) (0)),(46,V.d (D.agg [D.list (ints vec),D.int IntKind.i64 k,D.int IntKind.i64 w,D.int IntKind.i64 o,D.str { data:={ toList:=nm } },D.int IntKind.i64 n,D.int IntKind.i64 m,D.str { data:={ toList:=u } },D.list (prDs l),D.int IntKind.i64 d,D.int IntKind.i64 c,D.int IntKind.i64 g]))] [Slot.live (Row.box [V.d (D.list (ints vec)),I k,I w,I o,V.d (D.str { data:={ toList:=nm } }),I n,I m,V.d (D.str { data:={ toList:=u } }),V.d (D.list (prDs l)),I d,I c,I g] false)]) Q):Ends (cLaw b (.ok ⟨vec1,k1,w1,d1,c1,g1,.mk o1 nm1 n1 m1 u1 l1⟩) ⟨vec1,k1,w1,d1,c1,g1,.mk o1 nm1 n1 m1 u1 l1⟩ b false 0) 0 (start (cLaw b (.ok ⟨vec1,k1,w1,d1,c1,g1,.mk o1 nm1 n1 m1 u1 l1⟩) ⟨vec1,k1,w1,d1,c1,g1,.mk o1 nm1 n1 m1 u1 l1⟩ b false 0) 3 [qA vec k w d c g o n m nm u l,LB b] []) Q :=
  Ends.turn (cLaw_ok hS b (.ok ⟨vec1,k1,w1,d1,c1,g1,.mk o1 nm1 n1 m1 u1 l1⟩) ⟨vec1,k1,w1,d1,c1,g1,.mk o1 nm1 n1 m1 u1 l1⟩ b false 0) (hints [(14,false),(26,false),(27,false),(29,true),(30,true),(35,false),(36,false),(43,false),(44,false),(45,false)] [] [] 0 false true) (toCall 47) 200 [0] [2,
 46] (by kernel_rfl) hp h
theorem lb_n (hS:SanOK) {vec:List Int} {k w d c g o n m:Int} {nm u:Bs} {l:List Pr} {b:Bs} {wq:Bs} {z:Int} {Q:V→Aev.Rows→Prop} (hp:AllP [qyIs (D.agg (qC { vec:=vec,k:=k,w:=w,d:=d,c:=c,g:=g,p:=Pr.mk o nm n m u l })) { vec:=vec,k:=k,w:=w,d:=d,c:=c,g:=g,p:=Pr.mk o nm n m u l },fqIs { vec:=vec,k:=k,w:=w,d:=d,c:=c,g:=g,p:=Pr.mk o nm n m u l } false]) (h:Q (V.d (D.bool true)) ([Slot.live (Row.box [V.d (D.list (ints vec)),I k,I w,I o,V.d (D.str { data:={ toList:=nm } }),I n,I m,V.d (D.str { data:={ toList:=u } }),V.d (D.list (prDs l)),I d,I c,I g] false)])):Ends (cLaw wq (.ok ⟨vec,k,w,d,c,g,.mk o nm n m u l⟩) ⟨vec,k,w,d,c,g,.mk o nm n m u l⟩ wq false z) 0 (HLaw vec k w d c g o n m nm u l) Q :=
 Ends.toFin (cLaw_ok hS wq (.ok ⟨vec,k,w,d,c,g,.mk o nm n m u l⟩) ⟨vec,k,w,d,c,g,.mk o nm n m u l⟩ wq false z) (hints [] [] [] 0 false true) anyLoop 200 (by kernel_rfl) hp h
theorem lb_z (hS:SanOK) {vec:List Int} {k w d c g o n m:Int} {nm u:Bs} {l:List Pr} {b:Bs} {wq:Bs} {z:Int} {Q:V→Aev.Rows→Prop} (hp:AllP [qyIs (D.agg (qC { vec:=vec,k:=k,w:=w,d:=d,c:=c,g:=g,p:=Pr.mk o nm n m u l })) { vec:=vec,k:=k,w:=w,d:=d,c:=c,g:=g,p:=Pr.mk o nm n m u l },fqIs { vec:=vec,k:=k,w:=w,d:=d,c:=c,g:=g,p:=Pr.mk o nm n m u l } true,prIs (D.agg [D.int IntKind.i64 o,strD nm,D.int IntKind.i64 n,D.int IntKind.i64 m,strD u,D.list (prDs l)]) (Qy.p { vec:=vec,k:=k,w:=w,d:=d,c:=c,g:=g,p:=Pr.mk o nm n m u l }),szIs (Qy.p { vec:=vec,k:=k,w:=w,d:=d,c:=c,g:=g,p:=Pr.mk o nm n m u l }) z,decide (z > (64:Int)) = true]) (h:Q (V.d (D.bool true)) ([Slot.live (Row.box [V.d (D.list (ints vec)),I k,I w,I o,V.d (D.str { data:={ toList:=nm } }),I n,I m,V.d (D.str { data:={ toList:=u } }),V.d (D.list (prDs l)),I d,I c,I g] false)])):Ends (cLaw wq (.ok ⟨vec,k,w,d,c,g,.mk o nm n m u l⟩) ⟨vec,k,w,d,c,g,.mk o nm n m u l⟩ wq true z) 0 (HLaw vec k w d c g o n m nm u l) Q :=
 Ends.toFin (cLaw_ok hS wq (.ok ⟨vec,k,w,d,c,g,.mk o nm n m u l⟩) ⟨vec,k,w,d,c,g,.mk o nm n m u l⟩ wq true z) (hints [(54,true),(55,true)] [] [] 0 false true) anyLoop 200 (by kernel_rfl) hp h
theorem lb_y (hS:SanOK) {vec:List Int} {k w d c g o n m:Int} {nm u:Bs} {l:List Pr} {b:Bs} {wq:Bs} {z:Int} {Q:V→Aev.Rows→Prop} (hp:AllP [qyIs (D.agg (qC { vec:=vec,k:=k,w:=w,d:=d,c:=c,g:=g,p:=Pr.mk o nm n m u l })) { vec:=vec,k:=k,w:=w,d:=d,c:=c,g:=g,p:=Pr.mk o nm n m u l },fqIs { vec:=vec,k:=k,w:=w,d:=d,c:=c,g:=g,p:=Pr.mk o nm n m u l } true,prIs (D.agg [D.int IntKind.i64 o,strD nm,D.int IntKind.i64 n,D.int IntKind.i64 m,strD u,D.list (prDs l)]) (Qy.p { vec:=vec,k:=k,w:=w,d:=d,c:=c,g:=g,p:=Pr.mk o nm n m u l }),szIs (Qy.p { vec:=vec,k:=k,w:=w,d:=d,c:=c,g:=g,p:=Pr.mk o nm n m u l }) z,decide (z > (64:Int)) = false,qyIs (D.agg [D.list (ints vec),D.int IntKind.i64 k,D.int IntKind.i64 w,D.int IntKind.i64 o,strD nm,D.int IntKind.i64 n,D.int IntKind.i64 m,strD u,D.list (prDs l),D.int IntKind.i64 d,D.int IntKind.i64 c,D.int IntKind.i64 g]) { vec:=vec,k:=k,w:=w,d:=d,c:=c,g:=g,p:=Pr.mk o nm n m u l },okW { vec:=vec,k:=k,w:=w,d:=d,c:=c,g:=g,p:=Pr.mk o nm n m u l },wIs { vec:=vec,k:=k,w:=w,d:=d,c:=c,g:=g,p:=Pr.mk o nm n m u l } wq,bIs (D.list (bytesL wq)) wq,fits' wq,dqIs wq (Except.ok { vec:=vec,k:=k,w:=w,d:=d,c:=c,g:=g,p:=Pr.mk o nm n m u l }),bytesL wq = bytesL (List.map unB (bytesL wq)),qyIs (D.agg [D.list (ints vec),D.int IntKind.i64 k,D.int IntKind.i64 w,D.int IntKind.i64 o,strD nm,D.int IntKind.i64 n,D.int IntKind.i64 m,strD u,D.list (prDs l),D.int IntKind.i64 d,D.int IntKind.i64 c,D.int IntKind.i64 g]) { vec:=vec,k:=k,w:=w,d:=d,c:=c,g:=g,p:=Pr.mk o nm n m u l },okR { vec:=vec,k:=k,w:=w,d:=d,c:=c,g:=g,p:=Pr.mk o nm n m u l },rIs { vec:=vec,k:=k,w:=w,d:=d,c:=c,g:=g,p:=Pr.mk o nm n m u l } wq,bytesL wq = bytesL (List.map unB (bytesL wq)),(ByteArray.toList { data:=List.toArray (List.map unB (bytesL wq)) } == ByteArray.toList { data:=List.toArray (List.map unB (bytesL wq)) }) = true,(ByteArray.toList { data:=List.toArray (List.map unB (bytesL wq)) } == ByteArray.toList { data:=List.toArray (List.map unB (bytesL wq)) }) = true,(ByteArray.toList { data:=List.toArray (List.map unB (bytesL wq)) } == ByteArray.toList { data:=List.toArray (List.map unB (bytesL wq)) }) = true,true = true,true = true,true = true,qyIs (D.agg [D.list (ints (Qy.vec { vec:=vec,k:=k,w:=w,d:=d,c:=c,g:=g,p:=Pr.mk o nm n m u l })),D.int IntKind.i64 (Qy.k { vec:=vec,k:=k,w:=w,d:=d,c:=c,g:=g,p:=Pr.mk o nm n m u l }),D.int IntKind.i64 (Qy.w { vec:=vec,k:=k,w:=w,d:=d,c:=c,g:=g,p:=Pr.mk o nm n m u l }),D.int IntKind.i64 (Pr.op (Qy.p { vec:=vec,k:=k,w:=w,d:=d,c:=c,g:=g,p:=Pr.mk o nm n m u l })),strD (Pr.name (Qy.p { vec:=vec,k:=k,w:=w,d:=d,c:=c,g:=g,p:=Pr.mk o nm n m u l })),D.int IntKind.i64 (Pr.n (Qy.p { vec:=vec,k:=k,w:=w,d:=d,c:=c,g:=g,p:=Pr.mk o nm n m u l })),D.int IntKind.i64 (Pr.m (Qy.p { vec:=vec,k:=k,w:=w,d:=d,c:=c,g:=g,p:=Pr.mk o nm n m u l })),strD (Pr.s (Qy.p { vec:=vec,k:=k,w:=w,d:=d,c:=c,g:=g,p:=Pr.mk o nm n m u l })),D.list (prDs (Pr.subs (Qy.p { vec:=vec,k:=k,w:=w,d:=d,c:=c,g:=g,p:=Pr.mk o nm n m u l }))),D.int IntKind.i64 (Qy.d { vec:=vec,k:=k,w:=w,d:=d,c:=c,g:=g,p:=Pr.mk o nm n m u l }),D.int IntKind.i64 (Qy.c { vec:=vec,k:=k,w:=w,d:=d,c:=c,g:=g,p:=Pr.mk o nm n m u l }),D.int IntKind.i64 (Qy.g { vec:=vec,k:=k,w:=w,d:=d,c:=c,g:=g,p:=Pr.mk o nm n m u l })]) { vec:=vec,k:=k,w:=w,d:=d,c:=c,g:=g,p:=Pr.mk o nm n m u l },qyIs (D.agg [D.list (ints vec),D.int IntKind.i64 k,D.int IntKind.i64 w,D.int IntKind.i64 o,strD nm,D.int IntKind.i64 n,D.int IntKind.i64 m,strD u,D.list (prDs l),D.int IntKind.i64 d,D.int IntKind.i64 c,D.int IntKind.i64 g]) { vec:=vec,k:=k,w:=w,d:=d,c:=c,g:=g,p:=Pr.mk o nm n m u l },okR { vec:=vec,k:=k,w:=w,d:=d,c:=c,g:=g,p:=Pr.mk o nm n m u l },true = true]) (h:Q (V.d (D.bool true)) ([Slot.live (Row.box [V.d (D.list (ints vec)),I k,I w,I o,V.d (D.str { data:={ toList:=nm } }),I n,I m,V.d (D.str { data:={ toList:=u } }),V.d (D.list (prDs l)),I d,I c,I g] false),Slot.live (Row.box [V.d (D.list (ints (Qy.vec { vec:=vec,k:=k,w:=w,d:=d,c:=c,g:=g,p:=Pr.mk o nm n m u l }))),I (Qy.k { vec:=vec,k:=k,w:=w,d:=d,c:=c,g:=g,p:=Pr.mk o nm n m u l }),I (Qy.w { vec:=vec,k:=k,w:=w,d:=d,c:=c,g:=g,p:=Pr.mk o nm n m u l }),I (Pr.op (Qy.p { vec:=vec,k:=k,w:=w,d:=d,c:=c,g:=g,p:=Pr.mk o nm n m u l })),V.d (D.str { data:={ toList:=nm } }),I (Pr.n (Qy.p { vec:=vec,k:=k,w:=w,d:=d,c:=c,g:=g,p:=Pr.mk o nm n m u l })),I (Pr.m (Qy.p { vec:=vec,k:=k,w:=w,d:=d,c:=c,g:=g,p:=Pr.mk o nm n m u l })),V.d (D.str { data:={ toList:=u } }),V.d (D.list (prDs (Pr.subs (Qy.p { vec:=vec,k:=k,w:=w,d:=d,c:=c,g:=g,p:=Pr.mk o nm n m u l })))),I (Qy.d { vec:=vec,k:=k,w:=w,d:=d,c:=c,g:=g,p:=Pr.mk o nm n m u l }),I (Qy.c { vec:=vec,k:=k,w:=w,d:=d,c:=c,g:=g,p:=Pr.mk o nm n m u l }),I (Qy.g { vec:=vec,k:=k,w:=w,d:=d,c:=c,g:=g,p:=Pr.mk o nm n m u l })] false)])):Ends (cLaw wq (.ok ⟨vec,k,w,d,c,g,.mk o nm n m u l⟩) ⟨vec,k,w,d,c,g,.mk o nm n m u l⟩ wq true z) 0 (HLaw vec k w d c g o n m nm u l) Q :=
 Ends.toFin (cLaw_ok hS wq (.ok ⟨vec,k,w,d,c,g,.mk o nm n m u l⟩) ⟨vec,k,w,d,c,g,.mk o nm n m u l⟩ wq true z) (hints [(54,false),(55,false),(71,true),(72,true),(73,true),(75,true),(76,true),(77,true)] [] [] 0 false true) anyLoop 200 (by kernel_rfl) hp h
end Go.Aev.M44
end
section
namespace Go.Aev.M44
set_option maxRecDepth 1000000
open Go Go.Aev
theorem bq (b:Bs):bytesL b = bytesL (List.map unB (bytesL b)):=by rw [unB_bytes]
theorem dq_err {b:Bs} {e:Nat} (h:dq b = .error e):e ≠ 0:=by
 unfold dq at h
 split at h
 ·rename_i e1 h1; cases h; exact gInts_err h1
 ·split at h
  ·rename_i e1 h1; cases h; exact gStrs_err h1
  ·split at h
   ·split at h
    ·cases h
    ·cases h; omega
   ·cases h; omega
def Back (b:Bs):Prop:=∀ q1,b.length ≤ 2000→dq b = .ok q1→okR q1∧okW q1∧wIs q1 b
def Forth (q:Qy):Prop:=fewQ q = true→(ptC q.p).length ≤ 64→okR q∧okW q∧∃ w,wIs q w∧rIs q w∧fits w.length∧dq w = .ok q
abbrev IsT (v:V) (rows:Aev.Rows):Prop:=convV (liveAt rows) v = some (B true)
theorem law_b (hS:SanOK) {vec:List Int} {k w d c g o n m:Int} {nm u:Bs} {l:List Pr} {b:Bs} (hq:Forth ⟨vec,k,w,d,c,g,.mk o nm n m u l⟩) {c0:SCfg} (hc:c0.P = PP) :
  Ends c0 0 (HLaw vec k w d c g o n m nm u l) IsT:=by
 cases hf:fewQ ⟨vec,k,w,d,c,g,.mk o nm n m u l⟩ with
 | false=>exact Ends.cfg hc.symm (lb_n hS (b:=b) (wq:=[]) (z:=0) ⟨rfl,hf,trivial⟩ rfl)
 | true =>
  by_cases hz:(ptC (.mk o nm n m u l)).length ≤ 64
  ·obtain ⟨h1,h2,wq,h3,h4,h5,h6⟩:=hq hf hz
   exact Ends.cfg hc.symm (lb_y hS (b:=b) (wq:=wq) (z:=((ptC (.mk o nm n m u l)).length:Int)) ⟨rfl,hf,rfl,rfl,decide_eq_false (by omega),rfl,h2,h3,rfl,h5,h6,bq _,rfl,h1,h4,bq _,beq_self_eq_true _,beq_self_eq_true _,beq_self_eq_true _,rfl,rfl,rfl,rfl,rfl,h1,rfl,trivial⟩ rfl)
  ·exact Ends.cfg hc.symm (lb_z hS (b:=b) (wq:=[]) (z:=((ptC (.mk o nm n m u l)).length:Int)) ⟨rfl,hf,rfl,rfl,decide_eq_true (by omega),trivial⟩ rfl)
theorem law_ok (hS:SanOK) {q:Qy} {b:Bs} (hb:Back b) (hq:Forth q):RCs PP 3 [.d (.agg (qC q)),LB b] [] (B true):=by
 obtain ⟨vec,k,w,d,c,g,o,nm,n,m,u,l⟩:=q
 have eb:=bytesL_len b
 by_cases hl:b.length > 2000
 ·exact rcs_of (cLaw_ok hS b (.error 1) ⟨vec,k,w,d,c,g,.mk o nm n m u l⟩ [] false 0) (by kernel_rfl) (la_s hS ⟨decide_eq_true (by omega),trivial⟩ rfl)
 ·have hfit:fits b.length:=by unfold fits; omega
  have hd:decide (((bytesL b).length:Int) > (2000:Int)) = false:=decide_eq_false (by omega)
  cases hr:dq b with
  | error e =>
   have he0:=dq_err hr
   have h1:((e:Int) != (e:Int)) = false:=by simp
   have h2:((e:Int) == (0:Int)) = false:=by simp; omega
   exact rcs_of (cLaw_ok hS b (.error e) ⟨vec,k,w,d,c,g,.mk o nm n m u l⟩ [] false 0) (by kernel_rfl)
    (la_e hS ⟨hd,rfl,hfit,hr,rfl,hfit,hr,h1,h1,h1,h2,h2,h2,h2,h2,h2,h2,h1,h2,h1,rfl,trivial⟩ (law_b (b:=b) hS hq rfl))
  | ok q1 =>
   obtain ⟨r1,r2,r3⟩:=hb q1 (by omega) hr
   obtain ⟨vec1,k1,w1,d1,c1,g1,o1,nm1,n1,m1,u1,l1⟩:=q1
   exact rcs_of (cLaw_ok hS b (.ok ⟨vec1,k1,w1,d1,c1,g1,.mk o1 nm1 n1 m1 u1 l1⟩) ⟨vec1,k1,w1,d1,c1,g1,.mk o1 nm1 n1 m1 u1 l1⟩ b false 0) (by kernel_rfl)
    (la_k hS (vec:=vec) (l1:=l1) ⟨hd,rfl,hfit,hr,rfl,hfit,hr,rfl,rfl,rfl,rfl,rfl,rfl,rfl,rfl,rfl,r1,rfl,rfl,rfl,rfl,rfl,r2,r3,rfl,bq _,rfl,rfl,bq _,rfl,rfl,rfl,rfl,rfl,rfl,by rw [beq_self_eq_true]; rfl,trivial⟩ (law_b (b:=b) hS hq rfl))
end Go.Aev.M44
end
section
namespace Go.Aev.M44
open Go Go.Aev
mutual
theorem ptC_le:∀ (p:Pr),(ptC p).length ≤ (parts p).length
 | .mk o nm n m s l=>by
  simp only [ptC,parts]
  have:=ptG_le l [.mk o nm n m s l]
  rw [List.length_take,List.length_cons]
  simp only [List.length_cons,List.length_nil] at this
  omega
theorem ptG_le:∀ (l:List Pr) (out:List Pr),(ptG out l).length ≤ out.length + (partsL l).length
 | [],out=>by simp [ptG,partsL]
 | p :: r,out=>by
  simp only [ptG,partsL]
  split
  ·have h1:=ptG_le r (out ++ ptC p)
   have h2:=ptC_le p
   rw [List.length_append] at h1 ⊢
   omega
  ·rw [List.length_append]; omega
end
theorem eStrs_part {t:List Bs} {x:Bs} (h:x ∈ t):x.length ≤ (eStrs t).length:=by
 unfold eStrs
 rw [List.length_append]
 have:∀ t:List Bs,x ∈ t→x.length ≤ (t.flatMap eBytes).length:=by
  intro t
  induction t with
  | nil=>intro h; cases h
  | cons y r ih =>
   intro h
   rw [List.flatMap_cons,List.length_append]
   cases h with
   | head=>unfold eBytes; rw [List.length_append]; omega
   | tail _ h=>have:=ih h; omega
 have:=this t h
 omega
theorem back_ok (b:Bs):Back b:=by
 intro q hb h
 have hs:short b.length:=by unfold short; omega
 unfold dq at h
 split at h
 ·cases h
 ·rename_i l u g1
  split at h
  ·cases h
  ·rename_i t v g2
   split at h
   ·rename_i huv
    split at h
    ·rename_i q' hq
     cases h
     obtain ⟨a1,a2,a3,a4⟩:=gList_back int_fit hs g1
     have hs2:short (b.drop u).length:=by rw [List.length_drop]; unfold short; omega
     obtain ⟨c1,c2,c3,c4⟩:=gList_back bytes_fit hs2 g2
     rw [List.length_drop] at c1
     rw [List.take_of_length_le (by rw [List.length_drop]; omega)] at c2
     have eb:b = eInts l ++ eStrs t:=by
      have:=List.take_append_drop u b
      rw [a2,c2] at this
      exact this.symm
     have lS:(eStrs t).length ≤ 2000:=by have:=congrArg List.length eb; rw [List.length_append] at this; omega
     unfold dqOf at hq
     split at hq
     ·rename_i h0 h1 h2 h3 h4 h5 y
      split at hq
      ·cases hq
      ·rename_i hh5
       split at hq
       ·cases hq
       ·split at hq
        ·rename_i p hp
         cases hq
         obtain ⟨e1,e2,e3⟩:=(back_both _).1 _ _ _ _ _ hp
         rw [List.append_nil] at e1 e2
         have hy:y.take h5.toNat ++ nums (parts p) = y:=by rw [← e1]; exact List.take_append_drop _ _
         have hlen:((y.take h5.toNat).length:Int) = h5:=by rw [List.length_take]; omega
         have el:hdN ⟨y.take h5.toNat,h0,h1,h2,h3,h4,p⟩ ++ nums (parts p) = h0 :: h1 :: h2 :: h3 :: h4 :: h5 :: y:=by
          unfold hdN
          simp only [hlen,List.append_assoc,hy]
          rfl
         have ly:y.length ≤ 2000:=by simp only [List.length_cons] at a4; omega
         have lp:(parts p).length ≤ 500:=by
          have:=nums_len (parts p)
          have hl:=congrArg List.length e1
          rw [List.length_drop] at hl
          omega
         have ep:ptC p = parts p:=ptC_all p (by have:=ptC_le p; omega)
         have ok:QOK ⟨y.take h5.toNat,h0,h1,h2,h3,h4,p⟩ (parts p) :=
          ⟨by show (y.take h5.toNat).length ≤ _; rw [List.length_take]; omega,by rw [el]; exact a3,by rw [← e2]; intro x hx; have:=eStrs_part hx; unfold small; omega,by rw [← e2]; unfold small; omega⟩
         refine ⟨?_,⟨ok,by show (parts p).length ≤ _; omega⟩,?_⟩
         ·unfold okR
          show QOK _ (ptC p)
          rw [ep]; exact ok
         ·unfold wIs encQ
          show eInts (hdN _ ++ nums (parts p)) ++ eStrs (txts (parts p)) = b
          rw [el,← e2]; exact eb.symm
        ·cases hq
     ·cases hq
    ·cases h
   ·cases h
end Go.Aev.M44
end
section
namespace Go.Aev.M44
open Go Go.Aev
mutual
theorem szP_le:∀ (p:Pr),szP p + 1 ≤ 2 * (parts p).length
 | .mk o nm n m s l=>by
  simp only [szP,parts]
  have:=szL_le l
  rw [List.length_cons]
  omega
theorem szL_le:∀ (l:List Pr),szL l ≤ 2 * (partsL l).length
 | []=>by simp [szL,partsL]
 | p :: r=>by
  simp only [szL,partsL]
  have h1:=szP_le p
  have h2:=szL_le r
  have h3:=parts_pos p
  rw [List.length_append]
  omega
end
mutual
theorem okP_of:∀ (p:Pr),(parts p).length ≤ 64→okP p
 | .mk o nm n m s l,h=>by
  simp only [parts,List.length_cons] at h
  simp only [okP]
  have:=partsL_ge l
  exact ⟨by omega,okL_of l (by omega)⟩
theorem okL_of:∀ (l:List Pr),(partsL l).length ≤ 64→okL l
 | [],_=>by simp only [okL]
 | p :: r,h=>by
  simp only [partsL,List.length_append] at h
  simp only [okL]
  exact ⟨okP_of p (by omega),okL_of r (by omega)⟩
end
theorem dq_enc {q:Qy} (hp:(parts q.p).length ≤ 64) (hv:q.vec.length ≤ 40) (hn:∀ x ∈ hdN q ++ nums (parts q.p),in64 x) (ht:∀ x ∈ txts (parts q.p),short x.length):dq (encQ q (parts q.p)) = .ok q:=by
 have l1:=nums_len (parts q.p)
 have l2:=txts_len (parts q.p)
 have lh:(hdN q).length = 6 + q.vec.length:=by unfold hdN; simp; omega
 have r1:=gList_read int_fit (l:=hdN q ++ nums (parts q.p)) (by rw [List.length_append]; unfold short; omega) hn (eStrs (txts (parts q.p)))
 have r2:=gList_read bytes_fit (l:=txts (parts q.p)) (by unfold short; omega) ht []
 rw [List.append_nil] at r2
 have r1:gInts (encQ q (parts q.p)) = .ok (hdN q ++ nums (parts q.p),(eInts (hdN q ++ nums (parts q.p))).length):=r1
 have r2:gStrs (eStrs (txts (parts q.p))) = .ok (txts (parts q.p),(eStrs (txts (parts q.p))).length):=r2
 have e1:(encQ q (parts q.p)).drop (eInts (hdN q ++ nums (parts q.p))).length = eStrs (txts (parts q.p)):=by unfold encQ; exact List.drop_left
 have e2:(eInts (hdN q ++ nums (parts q.p))).length + (eStrs (txts (parts q.p))).length = (encQ q (parts q.p)).length:=by unfold encQ; rw [List.length_append]
 have e3:dqOf (hdN q ++ nums (parts q.p)) (txts (parts q.p)) = some q:=by
  obtain ⟨vec,k,w,d,c,g,p⟩:=q
  have h:=pw_parts p ((nums (parts p)).length + 1) [] [] (by have:=szP_le p; have:=l1; simp only at this; omega) (okP_of p hp)
  rw [List.append_nil,List.append_nil] at h
  show dqOf (k :: w :: d :: c :: g :: (vec.length:Int) :: (vec ++ nums (parts p))) (txts (parts p)) = _
  simp only [dqOf]
  have ed:(vec ++ nums (parts p)).drop ((vec.length:Int)).toNat = nums (parts p):=by rw [Int.toNat_natCast]; exact List.drop_left
  have et:(vec ++ nums (parts p)).take ((vec.length:Int)).toNat = vec:=by rw [Int.toNat_natCast]; exact List.take_left
  rw [if_neg (by rw [List.length_append]; omega),ed,if_neg (by simp only at l1 hp; omega),h,et]
 unfold dq
 rw [r1]
 simp only
 rw [e1,r2]
 simp only
 rw [if_pos e2,e3]
theorem forth_ok {q:Qy} (hn:∀ x ∈ hdN q ++ nums (parts q.p),in64 x) (hs:(eStrs (txts (parts q.p))).length ≤ 1073000000):Forth q:=by
 intro hf hz
 have ep:ptC q.p = parts q.p:=ptC_all q.p (by omega)
 have hp:(parts q.p).length ≤ 64:=by rw [← ep]; exact hz
 have hv:q.vec.length ≤ 40:=by
  unfold fewQ at hf
  rw [Bool.and_eq_true] at hf
  exact of_decide_eq_true hf.2
 have l1:=nums_len (parts q.p)
 have lh:(hdN q).length = 6 + q.vec.length:=by unfold hdN; simp; omega
 have ht:∀ x ∈ txts (parts q.p),x.length ≤ 1073000000:=fun x hx=>Nat.le_trans (eStrs_part hx) hs
 have ok:QOK q (parts q.p):=⟨by omega,hn,fun x hx=>by have:=ht x hx; unfold small; omega,by unfold small; omega⟩
 have li:=eInts_len hn (by rw [List.length_append]; unfold fits; omega)
 rw [List.length_append] at li
 refine ⟨by unfold okR; rw [ep]; exact ok,⟨ok,by omega⟩,encQ q (parts q.p),rfl,by unfold rIs; rw [ep],?_,dq_enc hp hv hn fun x hx=>by have:=ht x hx; unfold short; omega⟩
 unfold encQ fits
 rw [List.length_append]
 omega
theorem law_all (hS:SanOK) {q:Qy} {b:Bs} (hn:∀ x ∈ hdN q ++ nums (parts q.p),in64 x) (hs:(eStrs (txts (parts q.p))).length ≤ 1073000000):RCs PP 3 [.d (.agg (qC q)),LB b] [] (B true) :=
 law_ok hS (back_ok b) (forth_ok hn hs)
end Go.Aev.M44
end
