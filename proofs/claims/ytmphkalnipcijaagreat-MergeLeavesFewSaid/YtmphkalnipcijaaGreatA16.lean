/- Lemmas for the statements of this seat: an abstract machine that the model follows, and contracts of functions. Conditions: none. -/
import Derived.Test.YtmphkalnipcijaaGreatProg
import Derived.Test.YtmphkalnipcijaaGreatA15
import Derived.KernelRfl
set_option linter.unusedVariables false
set_option linter.unusedSimpArgs false
/- M33Base -/
section
namespace Go.Aev.M33
/-- over any program -/
def rcBy (P : Program) (g : FuncId) : Bool := match P.funcs[g]? with
  | some gf => gf.body.isSome
  | none => false
def mkBy (P : Program) (po : FuncId → Bool) (sRC : FuncId → List V → Aev.Rows → Option (List Prop × V)) : SCfg := { P := P, T := tyOf P, F := fun g => P.funcs[g]?, rc := rcBy P, po, sRC }

theorem name_by {P : Program} (names : (P.funcs.toList.all fun f => !(f.name == "runtime.NumGoroutine")) = true) {g : FuncId} {gf : Func} (h : P.funcs[g]? = some gf) : (gf.name == "runtime.NumGoroutine") = false := by
  have := (List.all_eq_true.1 names) gf (by rw [Array.mem_toList_iff]; exact Array.mem_of_getElem? h)
  simpa using this

theorem mkBy_ok {P : Program} (names : (P.funcs.toList.all fun f => !(f.name == "runtime.NumGoroutine")) = true) (mixed : P.follows .mixedOrders = true)
    {po : FuncId → Bool} {sRC : FuncId → List V → Aev.Rows → Option (List Prop × V)} (ht : TableOK (mkBy P po sRC)) : COK (mkBy P po sRC).cfg :=
  scfg_ok (fun _ _ h => h) (fun _ _ h => ⟨h, name_by names h⟩) (fun g h => by
    have h : rcBy P g = true := h
    unfold rcBy at h
    split at h
    · rename_i gf hg; exact ⟨gf, hg, h, name_by names hg⟩
    · cases h) mixed ht

noncomputable def PP : Program := Go.Proofs.Tryz.prog
noncomputable def mk (po : FuncId → Bool) (sRC : FuncId → List V → Aev.Rows → Option (List Prop × V)) : SCfg := mkBy PP po sRC
def nextOf (o : List Prop × Out) : AS := match o.2 with
  | .next s => s
  | _ => ⟨⟨0, [], [], none, []⟩, [], []⟩
noncomputable def start (c : SCfg) (g : FuncId) (args : List V) (rows : Aev.Rows) : AS := match enterA c.cfg g args with
  | some fr => ⟨fr, [], rows⟩
  | none => ⟨⟨0, [], [], none, []⟩, [], []⟩
abbrev I (n : Int) : V := .d (.int .i64 n)
abbrev B (b : Bool) : V := .d (.bool b)
abbrev L (l : List Int) : V := .d (.list (ints l))
/-- temporaries that are known -/
def envOf (n : Nat) (l : List (Nat × V)) : List V := (List.range n).map fun i => match l.find? (fun p => Nat.beq p.1 i) with
  | some p => p.2
  | none => .any
def hd (g : FuncId) (td : List AItem) (n : Nat) (l : List (Nat × V)) (rows : Aev.Rows) : AS := ⟨⟨g, envOf n l, td, none, []⟩, [], rows⟩

set_option maxRecDepth 1000000 in
theorem names : (PP.funcs.toList.all fun f => !(f.name == "runtime.NumGoroutine")) = true := by kernel_rfl
theorem mixed : PP.follows .mixedOrders = true := by kernel_rfl

theorem mk_ok {po : FuncId → Bool} {sRC : FuncId → List V → Aev.Rows → Option (List Prop × V)} (ht : TableOK (mk po sRC)) : COK (mk po sRC).cfg := mkBy_ok names mixed ht

theorem start_eq {c : SCfg} {g : FuncId} {args : List V} {rows : Aev.Rows} {fr : AF} (h : enterA c.cfg g args = some fr) : start c g args rows = ⟨fr, [], rows⟩ := by unfold start; rw [h]

/-- a contract out of a run -/
theorem rcs_of {c : SCfg} (hc : COK c.cfg) {g : FuncId} {args : List V} {rows : Aev.Rows} {x : V} (he : (enterA c.cfg g args).isSome = true) (h : Ends c 0 (start c g args rows) fun v rows' => convV (liveAt rows') v = some x) : RCs c.P g args rows x := by
  obtain ⟨fr, hf⟩ := Option.isSome_iff_exists.1 he
  rw [start_eq hf] at h
  exact rcs_of_does (does_of_ends hc hf h)

theorem does_of {c : SCfg} (hc : COK c.cfg) {g : FuncId} {k : Nat} {args : List V} {rows : Aev.Rows} {R : V → Aev.Rows → Prop} (he : (enterA c.cfg g args).isSome = true) (h : Ends c k (start c g args rows) R) : Does c.P g k args rows R := by
  obtain ⟨fr, hf⟩ := Option.isSome_iff_exists.1 he
  rw [start_eq hf] at h
  exact does_of_ends hc hf h

/-- nothing is called -/
noncomputable def c0 : SCfg := mk (fun _ => true) (fun _ _ _ => none)
theorem c0_ok : COK c0.cfg := mk_ok (fun g args rows ps v h => by cases h)

end Go.Aev.M33
end
/- M33Class -/
section
namespace Go.Aev.M33
set_option maxRecDepth 1000000
/-- the class of a number of entries -/
def cls (n : Int) : Int := if n ≤ 16 then 0 else if n ≤ 64 then 1 else if n ≤ 256 then 2 else if n ≤ 1024 then 3 else 4

/-- one decision -/
def gd1 (t : Nat) (b : Bool) : Hint := { gd := fun i => if Nat.beq i t then some b else none }
/-- the code that is left at a loop's head -/
noncomputable def tdL (c : SCfg) (g : FuncId) (args : List V) (n : Nat) : List AItem := (nextOf (sTo c {} (atLoop n) 300 (start c g args []))).fr.todo

noncomputable def HC (n c most : Int) : AS := hd 8 (tdL c0 8 [I 0] 2) 13 [(0, I n), (3, I c), (4, I most)] []
noncomputable def HR (n c most : Int) : AS := hd 9 (tdL c0 9 [I 0] 2) 13 [(0, I n), (3, I c), (4, I most)] []

variable {Q : V → Aev.Rows → Prop} {n c most : Int}

theorem HC_turn (h : most < n) (h1 : inInt (c + 1)) (h2 : inInt (4 * most)) (hk : Ends c0 0 (HC n (c + 1) (4 * most)) Q) : Ends c0 0 (HC n c most) Q :=
  Ends.turn c0_ok (gd1 7 true) (atLoop 2) 100 [] [0, 3, 4] (ps := [decide (n > most) = true, inInt (c + 1), inInt (4 * most)]) (by kernel_rfl) ⟨by simpa using h, h1, h2, trivial⟩ hk
theorem HC_stop (h : n ≤ most) (hq : Q (I c) []) : Ends c0 0 (HC n c most) Q :=
  Ends.toFin c0_ok (gd1 7 false) (atLoop 2) 100 (ps := [decide (n > most) = false]) (v := I c) (rows := []) (by kernel_rfl) ⟨by simpa using h, trivial⟩ hq
theorem HR_turn (h : most < n) (h1 : inInt (c + 1)) (h2 : inInt (4 * most)) (hk : Ends c0 0 (HR n (c + 1) (4 * most)) Q) : Ends c0 0 (HR n c most) Q :=
  Ends.turn c0_ok (gd1 7 true) (atLoop 2) 100 [] [0, 3, 4] (ps := [decide (n > most) = true, inInt (c + 1), inInt (4 * most)]) (by kernel_rfl) ⟨by simpa using h, h1, h2, trivial⟩ hk
theorem HR_stop (h : n ≤ most) (hq : Q (I c) []) : Ends c0 0 (HR n c most) Q :=
  Ends.toFin c0_ok (gd1 7 false) (atLoop 2) 100 (ps := [decide (n > most) = false]) (v := I c) (rows := []) (by kernel_rfl) ⟨by simpa using h, trivial⟩ hq

theorem HC_go (h : Ends c0 0 (HC n 0 16) Q) : Ends c0 0 (start c0 8 [I n] []) Q :=
  Ends.turn c0_ok {} (atLoop 2) 100 [] [0, 3, 4] (ps := []) (by kernel_rfl) trivial h
theorem HR_go (h : Ends c0 0 (HR n 0 16) Q) : Ends c0 0 (start c0 9 [I n] []) Q :=
  Ends.turn c0_ok {} (atLoop 2) 100 [] [0, 3, 4] (ps := []) (by kernel_rfl) trivial h

theorem lit_in (a : Int) (h : -9223372036854775808 ≤ a ∧ a ≤ 9223372036854775807) : inInt a := h

theorem class_rcs (h : n ≤ 4096) : RCs PP 8 [I n] [] (I (cls n)) := by
  refine rcs_of c0_ok (by kernel_rfl) (HC_go ?_)
  unfold cls
  by_cases h1 : n ≤ 16
  · rw [if_pos h1]; exact HC_stop h1 rfl
  · rw [if_neg h1]
    refine HC_turn (by omega) (lit_in _ (by omega)) (lit_in _ (by omega)) ?_
    by_cases h2 : n ≤ 64
    · rw [if_pos h2]; exact HC_stop h2 rfl
    · rw [if_neg h2]
      refine HC_turn (by omega) (lit_in _ (by omega)) (lit_in _ (by omega)) ?_
      by_cases h3 : n ≤ 256
      · rw [if_pos h3]; exact HC_stop h3 rfl
      · rw [if_neg h3]
        refine HC_turn (by omega) (lit_in _ (by omega)) (lit_in _ (by omega)) ?_
        by_cases h4 : n ≤ 1024
        · rw [if_pos h4]; exact HC_stop h4 rfl
        · rw [if_neg h4]
          refine HC_turn (by omega) (lit_in _ (by omega)) (lit_in _ (by omega)) ?_
          exact HC_stop (by omega) rfl

theorem refClass_rcs (h : n ≤ 4096) : RCs PP 9 [I n] [] (I (cls n)) := by
  refine rcs_of c0_ok (by kernel_rfl) (HR_go ?_)
  unfold cls
  by_cases h1 : n ≤ 16
  · rw [if_pos h1]; exact HR_stop h1 rfl
  · rw [if_neg h1]
    refine HR_turn (by omega) (lit_in _ (by omega)) (lit_in _ (by omega)) ?_
    by_cases h2 : n ≤ 64
    · rw [if_pos h2]; exact HR_stop h2 rfl
    · rw [if_neg h2]
      refine HR_turn (by omega) (lit_in _ (by omega)) (lit_in _ (by omega)) ?_
      by_cases h3 : n ≤ 256
      · rw [if_pos h3]; exact HR_stop h3 rfl
      · rw [if_neg h3]
        refine HR_turn (by omega) (lit_in _ (by omega)) (lit_in _ (by omega)) ?_
        by_cases h4 : n ≤ 1024
        · rw [if_pos h4]; exact HR_stop h4 rfl
        · rw [if_neg h4]
          refine HR_turn (by omega) (lit_in _ (by omega)) (lit_in _ (by omega)) ?_
          exact HR_stop (by omega) rfl
end Go.Aev.M33
end
/- M33Lists -/
section
namespace Go.Aev.M33
set_option maxRecDepth 1000000
/-- decisions, and the list's elements -/
def gds (l : List (Nat × Bool)) (lst : List (Nat × (Nat → D)) := []) (md : Nat := 0) : Hint := { gd := fun i => match l.find? (fun p => Nat.beq p.1 i) with | some p => some p.2 | none => none, lst := fun t => lst.find? (fun p => Nat.beq p.1 t) |>.map (·.2), md }
def el (l : List Int) : Nat → D := fun i => .int .i64 (l.getD i 0)

noncomputable def H6 (l : List Int) (k : Nat) : AS := hd 6 (tdL c0 6 [L [], I 0] 2) 28 [(0, L l), (1, I 80), (5, I k)] []
noncomputable def H25 (l : List Int) (x : Int) (k : Nat) : AS := hd 25 (tdL c0 25 [L [], I 0] 2) 18 [(0, L l), (1, I x), (5, I k)] []
noncomputable def H15 (a p : List Int) (s : Int) (k : Nat) : AS := hd 15 (tdL c0 15 [L [], L []] 2) 23 [(0, L a), (1, L p), (5, I s), (6, I k)] []
noncomputable def td12 : List AItem := (nextOf (sTo c0 (gd1 10 false) (atLoop 2) 300 (start c0 12 [L [], L []] []))).fr.todo
noncomputable def H12 (a b : List Int) (k : Nat) : AS := hd 12 td12 26 [(0, L a), (1, L b), (5, I k)] []
end Go.Aev.M33
end
/- M33Simple -/
section
namespace Go.Aev.M33
set_option maxRecDepth 1000000
set_option linter.unusedSimpArgs false
set_option linter.unusedVariables false
theorem H25_go {l : List Int} {x : Int} {Q : V → Aev.Rows → Prop}  (h : Ends c0 0 (H25 l x 0) Q) : Ends c0 0 (start c0 25 [L l, I x] []) Q :=
  Ends.turn c0_ok (gds []) (atLoop 2) 300 [] [0, 1, 5] (ps := []) (by kernel_rfl) (by
    (try simp only [AllP, Int.toNat_natCast, ints_len, decide_eq_true_eq, decide_eq_false_iff_not, beq_eq_false_iff_ne, beq_iff_eq, bne_iff_ne, bne_eq_false_iff_eq, Bool.not_eq_true', Bool.not_eq_false', Int.not_lt, Int.not_le, gt_iff_lt, ge_iff_le, ne_eq, and_true, true_and])
    all_goals (repeat' (first | with_reducible assumption | with_reducible rfl | omega | with_reducible exact ints_get (by omega) | with_reducible apply And.intro | unfold inInt))) h
theorem H25_turn {l : List Int} {x : Int} {k : Nat} {Q : V → Aev.Rows → Prop} (hk : k < l.length) (hb : l.length ≤ 4611686018427387904) (hne : l.getD k 0 ≠ x) (h : Ends c0 0 (H25 l x (k + 1)) Q) : Ends c0 0 (H25 l x k) Q :=
  Ends.turn c0_ok (gds [(9,true),(17,false)] [(12, el l)]) (atLoop 2) 300 [] [0, 1, 5] (ps := [decide ((↑k : Int) < (↑(List.length (ints l)) : Int)) = true, (0 : Int) ≤ (↑k : Int) ∧ (↑k : Int) < (↑(List.length (ints l)) : Int), (ints l)[Int.toNat (↑k : Int)]? = some (D.int IntKind.i64 (List.getD l (Int.toNat (↑k : Int)) (0 : Int))), nat_lit 1 = nat_lit 1, (List.getD l (Int.toNat (↑k : Int)) (0 : Int) == x) = false, inInt ((↑k : Int) + (1 : Int))]) (by kernel_rfl) (by
    (try simp only [AllP, Int.toNat_natCast, ints_len, decide_eq_true_eq, decide_eq_false_iff_not, beq_eq_false_iff_ne, beq_iff_eq, bne_iff_ne, bne_eq_false_iff_eq, Bool.not_eq_true', Bool.not_eq_false', Int.not_lt, Int.not_le, gt_iff_lt, ge_iff_le, ne_eq, and_true, true_and])
    all_goals (repeat' (first | with_reducible assumption | with_reducible rfl | omega | with_reducible exact ints_get (by omega) | with_reducible apply And.intro | unfold inInt))) h
theorem H25_yes {l : List Int} {x : Int} {k : Nat} {Q : V → Aev.Rows → Prop} (hk : k < l.length) (he : l.getD k 0 = x) (h : Q (B true) ([])) : Ends c0 0 (H25 l x k) Q :=
  Ends.fin c0_ok (gds [(9,true),(17,true)] [(12, el l)]) 300 (ps := [decide ((↑k : Int) < (↑(List.length (ints l)) : Int)) = true, (0 : Int) ≤ (↑k : Int) ∧ (↑k : Int) < (↑(List.length (ints l)) : Int), (ints l)[Int.toNat (↑k : Int)]? = some (D.int IntKind.i64 (List.getD l (Int.toNat (↑k : Int)) (0 : Int))), nat_lit 1 = nat_lit 1, (List.getD l (Int.toNat (↑k : Int)) (0 : Int) == x) = true]) (by kernel_rfl) (by
    (try simp only [AllP, Int.toNat_natCast, ints_len, decide_eq_true_eq, decide_eq_false_iff_not, beq_eq_false_iff_ne, beq_iff_eq, bne_iff_ne, bne_eq_false_iff_eq, Bool.not_eq_true', Bool.not_eq_false', Int.not_lt, Int.not_le, gt_iff_lt, ge_iff_le, ne_eq, and_true, true_and])
    all_goals (repeat' (first | with_reducible assumption | with_reducible rfl | omega | with_reducible exact ints_get (by omega) | with_reducible apply And.intro | unfold inInt))) h
theorem H25_no {l : List Int} {x : Int} {k : Nat} {Q : V → Aev.Rows → Prop} (hk : l.length ≤ k) (h : Q (B false) ([])) : Ends c0 0 (H25 l x k) Q :=
  Ends.fin c0_ok (gds [(9,false)]) 300 (ps := [decide ((↑k : Int) < (↑(List.length (ints l)) : Int)) = false]) (by kernel_rfl) (by
    (try simp only [AllP, Int.toNat_natCast, ints_len, decide_eq_true_eq, decide_eq_false_iff_not, beq_eq_false_iff_ne, beq_iff_eq, bne_iff_ne, bne_eq_false_iff_eq, Bool.not_eq_true', Bool.not_eq_false', Int.not_lt, Int.not_le, gt_iff_lt, ge_iff_le, ne_eq, and_true, true_and])
    all_goals (repeat' (first | with_reducible assumption | with_reducible rfl | omega | with_reducible exact ints_get (by omega) | with_reducible apply And.intro | unfold inInt))) h
theorem H6_go {l : List Int} {Q : V → Aev.Rows → Prop}  (h : Ends c0 0 (H6 l 0) Q) : Ends c0 0 (start c0 6 [L l, I 80] []) Q :=
  Ends.turn c0_ok (gds []) (atLoop 2) 300 [] [0, 1, 5] (ps := []) (by kernel_rfl) (by
    (try simp only [AllP, Int.toNat_natCast, ints_len, decide_eq_true_eq, decide_eq_false_iff_not, beq_eq_false_iff_ne, beq_iff_eq, bne_iff_ne, bne_eq_false_iff_eq, Bool.not_eq_true', Bool.not_eq_false', Int.not_lt, Int.not_le, gt_iff_lt, ge_iff_le, ne_eq, and_true, true_and])
    all_goals (repeat' (first | with_reducible assumption | with_reducible rfl | omega | with_reducible exact ints_get (by omega) | with_reducible apply And.intro | unfold inInt))) h
theorem H6_turn {l : List Int} {k : Nat} {Q : V → Aev.Rows → Prop} (hk : k < l.length) (hb : l.length ≤ 4611686018427387904) (h1 : 1 ≤ l.getD k 0) (h2 : l.getD k 0 ≤ 4096) (h : Ends c0 0 (H6 l (k + 1)) Q) : Ends c0 0 (H6 l k) Q :=
  Ends.turn c0_ok (gds [(9,true),(17,false),(23,false)] [(12, el l),(18, el l)]) (atLoop 2) 300 [] [0, 1, 5] (ps := [decide ((↑k : Int) < (↑(List.length (ints l)) : Int)) = true, (0 : Int) ≤ (↑k : Int) ∧ (↑k : Int) < (↑(List.length (ints l)) : Int), (ints l)[Int.toNat (↑k : Int)]? = some (D.int IntKind.i64 (List.getD l (Int.toNat (↑k : Int)) (0 : Int))), nat_lit 1 = nat_lit 1, decide (List.getD l (Int.toNat (↑k : Int)) (0 : Int) < (1 : Int)) = false, decide (List.getD l (Int.toNat (↑k : Int)) (0 : Int) < (1 : Int)) = false, decide (List.getD l (Int.toNat (↑k : Int)) (0 : Int) < (1 : Int)) = false, (0 : Int) ≤ (↑k : Int) ∧ (↑k : Int) < (↑(List.length (ints l)) : Int), (ints l)[Int.toNat (↑k : Int)]? = some (D.int IntKind.i64 (List.getD l (Int.toNat (↑k : Int)) (0 : Int))), nat_lit 1 = nat_lit 1, decide (List.getD l (Int.toNat (↑k : Int)) (0 : Int) < (1 : Int)) = false, decide (List.getD l (Int.toNat (↑k : Int)) (0 : Int) < (1 : Int)) = false, decide (List.getD l (Int.toNat (↑k : Int)) (0 : Int) < (1 : Int)) = false, decide (List.getD l (Int.toNat (↑k : Int)) (0 : Int) > (4096 : Int)) = false, inInt ((↑k : Int) + (1 : Int))]) (by kernel_rfl) (by
    (try simp only [AllP, Int.toNat_natCast, ints_len, decide_eq_true_eq, decide_eq_false_iff_not, beq_eq_false_iff_ne, beq_iff_eq, bne_iff_ne, bne_eq_false_iff_eq, Bool.not_eq_true', Bool.not_eq_false', Int.not_lt, Int.not_le, gt_iff_lt, ge_iff_le, ne_eq, and_true, true_and])
    all_goals (repeat' (first | with_reducible assumption | with_reducible rfl | omega | with_reducible exact ints_get (by omega) | with_reducible apply And.intro | unfold inInt))) h
theorem H6_low {l : List Int} {k : Nat} {Q : V → Aev.Rows → Prop} (hk : k < l.length) (h1 : l.getD k 0 < 1) (h : Q (B false) ([])) : Ends c0 0 (H6 l k) Q :=
  Ends.fin c0_ok (gds [(9,true),(17,true),(23,true)] [(12, el l),(18, el l)]) 300 (ps := [decide ((↑k : Int) < (↑(List.length (ints l)) : Int)) = true, (0 : Int) ≤ (↑k : Int) ∧ (↑k : Int) < (↑(List.length (ints l)) : Int), (ints l)[Int.toNat (↑k : Int)]? = some (D.int IntKind.i64 (List.getD l (Int.toNat (↑k : Int)) (0 : Int))), nat_lit 1 = nat_lit 1, decide (List.getD l (Int.toNat (↑k : Int)) (0 : Int) < (1 : Int)) = true, decide (List.getD l (Int.toNat (↑k : Int)) (0 : Int) < (1 : Int)) = true, decide (List.getD l (Int.toNat (↑k : Int)) (0 : Int) < (1 : Int)) = true, decide (List.getD l (Int.toNat (↑k : Int)) (0 : Int) < (1 : Int)) = true, decide (List.getD l (Int.toNat (↑k : Int)) (0 : Int) < (1 : Int)) = true, decide (List.getD l (Int.toNat (↑k : Int)) (0 : Int) < (1 : Int)) = true, true = true]) (by kernel_rfl) (by
    (try simp only [AllP, Int.toNat_natCast, ints_len, decide_eq_true_eq, decide_eq_false_iff_not, beq_eq_false_iff_ne, beq_iff_eq, bne_iff_ne, bne_eq_false_iff_eq, Bool.not_eq_true', Bool.not_eq_false', Int.not_lt, Int.not_le, gt_iff_lt, ge_iff_le, ne_eq, and_true, true_and])
    all_goals (repeat' (first | with_reducible assumption | with_reducible rfl | omega | with_reducible exact ints_get (by omega) | with_reducible apply And.intro | unfold inInt))) h
theorem H6_high {l : List Int} {k : Nat} {Q : V → Aev.Rows → Prop} (hk : k < l.length) (h1 : 1 ≤ l.getD k 0) (h2 : 4096 < l.getD k 0) (h : Q (B false) ([])) : Ends c0 0 (H6 l k) Q :=
  Ends.fin c0_ok (gds [(9,true),(17,false),(23,true)] [(12, el l),(18, el l)]) 300 (ps := [decide ((↑k : Int) < (↑(List.length (ints l)) : Int)) = true, (0 : Int) ≤ (↑k : Int) ∧ (↑k : Int) < (↑(List.length (ints l)) : Int), (ints l)[Int.toNat (↑k : Int)]? = some (D.int IntKind.i64 (List.getD l (Int.toNat (↑k : Int)) (0 : Int))), nat_lit 1 = nat_lit 1, decide (List.getD l (Int.toNat (↑k : Int)) (0 : Int) < (1 : Int)) = false, decide (List.getD l (Int.toNat (↑k : Int)) (0 : Int) < (1 : Int)) = false, decide (List.getD l (Int.toNat (↑k : Int)) (0 : Int) < (1 : Int)) = false, (0 : Int) ≤ (↑k : Int) ∧ (↑k : Int) < (↑(List.length (ints l)) : Int), (ints l)[Int.toNat (↑k : Int)]? = some (D.int IntKind.i64 (List.getD l (Int.toNat (↑k : Int)) (0 : Int))), nat_lit 1 = nat_lit 1, decide (List.getD l (Int.toNat (↑k : Int)) (0 : Int) < (1 : Int)) = false, decide (List.getD l (Int.toNat (↑k : Int)) (0 : Int) < (1 : Int)) = false, decide (List.getD l (Int.toNat (↑k : Int)) (0 : Int) < (1 : Int)) = false, decide (List.getD l (Int.toNat (↑k : Int)) (0 : Int) > (4096 : Int)) = true]) (by kernel_rfl) (by
    (try simp only [AllP, Int.toNat_natCast, ints_len, decide_eq_true_eq, decide_eq_false_iff_not, beq_eq_false_iff_ne, beq_iff_eq, bne_iff_ne, bne_eq_false_iff_eq, Bool.not_eq_true', Bool.not_eq_false', Int.not_lt, Int.not_le, gt_iff_lt, ge_iff_le, ne_eq, and_true, true_and])
    all_goals (repeat' (first | with_reducible assumption | with_reducible rfl | omega | with_reducible exact ints_get (by omega) | with_reducible apply And.intro | unfold inInt))) h
theorem H6_end {l : List Int} {k : Nat} {Q : V → Aev.Rows → Prop} (hk : l.length ≤ k) (h : Q (B (decide (((ints l).length : Int) ≤ 80))) ([])) : Ends c0 0 (H6 l k) Q :=
  Ends.fin c0_ok (gds [(9,false)]) 300 (ps := [decide ((↑k : Int) < (↑(List.length (ints l)) : Int)) = false]) (by kernel_rfl) (by
    (try simp only [AllP, Int.toNat_natCast, ints_len, decide_eq_true_eq, decide_eq_false_iff_not, beq_eq_false_iff_ne, beq_iff_eq, bne_iff_ne, bne_eq_false_iff_eq, Bool.not_eq_true', Bool.not_eq_false', Int.not_lt, Int.not_le, gt_iff_lt, ge_iff_le, ne_eq, and_true, true_and])
    all_goals (repeat' (first | with_reducible assumption | with_reducible rfl | omega | with_reducible exact ints_get (by omega) | with_reducible apply And.intro | unfold inInt))) h
theorem H15_go {a p : List Int} {Q : V → Aev.Rows → Prop}  (h : Ends c0 0 (H15 a p 0 0) Q) : Ends c0 0 (start c0 15 [L a, L p] []) Q :=
  Ends.turn c0_ok (gds []) (atLoop 2) 300 [] [0, 1, 5, 6] (ps := []) (by kernel_rfl) (by
    (try simp only [AllP, Int.toNat_natCast, ints_len, decide_eq_true_eq, decide_eq_false_iff_not, beq_eq_false_iff_ne, beq_iff_eq, bne_iff_ne, bne_eq_false_iff_eq, Bool.not_eq_true', Bool.not_eq_false', Int.not_lt, Int.not_le, gt_iff_lt, ge_iff_le, ne_eq, and_true, true_and])
    all_goals (repeat' (first | with_reducible assumption | with_reducible rfl | omega | with_reducible exact ints_get (by omega) | with_reducible apply And.intro | unfold inInt))) h
theorem H15_turn {a p : List Int} {s : Int} {k : Nat} {Q : V → Aev.Rows → Prop} (hk : k < p.length) (hb : p.length ≤ 4611686018427387904) (h1 : 0 ≤ p.getD k 0) (h2 : p.getD k 0 < a.length) (h3 : inInt (s + a.getD (p.getD k 0).toNat 0)) (h : Ends c0 0 (H15 a p (s + a.getD (p.getD k 0).toNat 0) (k + 1)) Q) : Ends c0 0 (H15 a p s k) Q :=
  Ends.turn c0_ok (gds [(10,true)] [(14, el a),(15, el p)]) (atLoop 2) 300 [] [0, 1, 5, 6] (ps := [decide ((↑k : Int) < (↑(List.length (ints p)) : Int)) = true, (0 : Int) ≤ (↑k : Int) ∧ (↑k : Int) < (↑(List.length (ints p)) : Int), (ints p)[Int.toNat (↑k : Int)]? = some (D.int IntKind.i64 (List.getD p (Int.toNat (↑k : Int)) (0 : Int))), nat_lit 1 = nat_lit 1, (0 : Int) ≤ List.getD p (Int.toNat (↑k : Int)) (0 : Int) ∧   List.getD p (Int.toNat (↑k : Int)) (0 : Int) < (↑(List.length (ints a)) : Int), (ints a)[Int.toNat (List.getD p (Int.toNat (↑k : Int)) (0 : Int))]? =   some (D.int IntKind.i64 (List.getD a (Int.toNat (List.getD p (Int.toNat (↑k : Int)) (0 : Int))) (0 : Int))), nat_lit 1 = nat_lit 1, inInt (s + List.getD a (Int.toNat (List.getD p (Int.toNat (↑k : Int)) (0 : Int))) (0 : Int)), inInt ((↑k : Int) + (1 : Int))]) (by kernel_rfl) (by
    (try simp only [AllP, Int.toNat_natCast, ints_len, decide_eq_true_eq, decide_eq_false_iff_not, beq_eq_false_iff_ne, beq_iff_eq, bne_iff_ne, bne_eq_false_iff_eq, Bool.not_eq_true', Bool.not_eq_false', Int.not_lt, Int.not_le, gt_iff_lt, ge_iff_le, ne_eq, and_true, true_and])
    all_goals (repeat' (first | with_reducible assumption | with_reducible rfl | omega | with_reducible exact ints_get (by omega) | with_reducible apply And.intro | unfold inInt))) h
theorem H15_end {a p : List Int} {s : Int} {k : Nat} {Q : V → Aev.Rows → Prop} (hk : p.length ≤ k) (h : Q (I s) ([])) : Ends c0 0 (H15 a p s k) Q :=
  Ends.fin c0_ok (gds [(10,false)]) 300 (ps := [decide ((↑k : Int) < (↑(List.length (ints p)) : Int)) = false]) (by kernel_rfl) (by
    (try simp only [AllP, Int.toNat_natCast, ints_len, decide_eq_true_eq, decide_eq_false_iff_not, beq_eq_false_iff_ne, beq_iff_eq, bne_iff_ne, bne_eq_false_iff_eq, Bool.not_eq_true', Bool.not_eq_false', Int.not_lt, Int.not_le, gt_iff_lt, ge_iff_le, ne_eq, and_true, true_and])
    all_goals (repeat' (first | with_reducible assumption | with_reducible rfl | omega | with_reducible exact ints_get (by omega) | with_reducible apply And.intro | unfold inInt))) h
theorem H12_go {a b : List Int} {Q : V → Aev.Rows → Prop} (hl : a.length = b.length) (h : Ends c0 0 (H12 a b 0) Q) : Ends c0 0 (start c0 12 [L a, L b] []) Q :=
  Ends.turn c0_ok (gds [(10,false)]) (atLoop 2) 300 [] [0, 1, 5] (ps := [((↑(List.length (ints a)) : Int) != (↑(List.length (ints b)) : Int)) = false]) (by kernel_rfl) (by
    (try simp only [AllP, Int.toNat_natCast, ints_len, decide_eq_true_eq, decide_eq_false_iff_not, beq_eq_false_iff_ne, beq_iff_eq, bne_iff_ne, bne_eq_false_iff_eq, Bool.not_eq_true', Bool.not_eq_false', Int.not_lt, Int.not_le, gt_iff_lt, ge_iff_le, ne_eq, and_true, true_and])
    all_goals (repeat' (first | with_reducible assumption | with_reducible rfl | omega | with_reducible exact ints_get (by omega) | with_reducible apply And.intro | unfold inInt))) h
theorem H12_len {a b : List Int} {Q : V → Aev.Rows → Prop} (hl : a.length ≠ b.length) (h : Q (B false) ([])) : Ends c0 0 (start c0 12 [L a, L b] []) Q :=
  Ends.fin c0_ok (gds [(10,true)]) 300 (ps := [((↑(List.length (ints a)) : Int) != (↑(List.length (ints b)) : Int)) = true]) (by kernel_rfl) (by
    (try simp only [AllP, Int.toNat_natCast, ints_len, decide_eq_true_eq, decide_eq_false_iff_not, beq_eq_false_iff_ne, beq_iff_eq, bne_iff_ne, bne_eq_false_iff_eq, Bool.not_eq_true', Bool.not_eq_false', Int.not_lt, Int.not_le, gt_iff_lt, ge_iff_le, ne_eq, and_true, true_and])
    all_goals (repeat' (first | with_reducible assumption | with_reducible rfl | omega | with_reducible exact ints_get (by omega) | with_reducible apply And.intro | unfold inInt))) h
theorem H12_turn {a b : List Int} {k : Nat} {Q : V → Aev.Rows → Prop} (hk : k < a.length) (hl : a.length = b.length) (hb : a.length ≤ 4611686018427387904) (he : a.getD k 0 = b.getD k 0) (h : Ends c0 0 (H12 a b (k + 1)) Q) : Ends c0 0 (H12 a b k) Q :=
  Ends.turn c0_ok (gds [(14,true),(25,false)] [(17, el a),(21, el b)]) (atLoop 2) 300 [] [0, 1, 5] (ps := [decide ((↑k : Int) < (↑(List.length (ints a)) : Int)) = true, (0 : Int) ≤ (↑k : Int) ∧ (↑k : Int) < (↑(List.length (ints a)) : Int), (ints a)[Int.toNat (↑k : Int)]? = some (D.int IntKind.i64 (List.getD a (Int.toNat (↑k : Int)) (0 : Int))), nat_lit 1 = nat_lit 1, (0 : Int) ≤ (↑k : Int) ∧ (↑k : Int) < (↑(List.length (ints b)) : Int), (ints b)[Int.toNat (↑k : Int)]? = some (D.int IntKind.i64 (List.getD b (Int.toNat (↑k : Int)) (0 : Int))), nat_lit 1 = nat_lit 1, (List.getD a (Int.toNat (↑k : Int)) (0 : Int) != List.getD b (Int.toNat (↑k : Int)) (0 : Int)) = false, inInt ((↑k : Int) + (1 : Int))]) (by kernel_rfl) (by
    (try simp only [AllP, Int.toNat_natCast, ints_len, decide_eq_true_eq, decide_eq_false_iff_not, beq_eq_false_iff_ne, beq_iff_eq, bne_iff_ne, bne_eq_false_iff_eq, Bool.not_eq_true', Bool.not_eq_false', Int.not_lt, Int.not_le, gt_iff_lt, ge_iff_le, ne_eq, and_true, true_and])
    all_goals (repeat' (first | with_reducible assumption | with_reducible rfl | omega | with_reducible exact ints_get (by omega) | with_reducible apply And.intro | unfold inInt))) h
theorem H12_ne {a b : List Int} {k : Nat} {Q : V → Aev.Rows → Prop} (hk : k < a.length) (hl : a.length = b.length) (he : a.getD k 0 ≠ b.getD k 0) (h : Q (B false) ([])) : Ends c0 0 (H12 a b k) Q :=
  Ends.fin c0_ok (gds [(14,true),(25,true)] [(17, el a),(21, el b)]) 300 (ps := [decide ((↑k : Int) < (↑(List.length (ints a)) : Int)) = true, (0 : Int) ≤ (↑k : Int) ∧ (↑k : Int) < (↑(List.length (ints a)) : Int), (ints a)[Int.toNat (↑k : Int)]? = some (D.int IntKind.i64 (List.getD a (Int.toNat (↑k : Int)) (0 : Int))), nat_lit 1 = nat_lit 1, (0 : Int) ≤ (↑k : Int) ∧ (↑k : Int) < (↑(List.length (ints b)) : Int), (ints b)[Int.toNat (↑k : Int)]? = some (D.int IntKind.i64 (List.getD b (Int.toNat (↑k : Int)) (0 : Int))), nat_lit 1 = nat_lit 1, (List.getD a (Int.toNat (↑k : Int)) (0 : Int) != List.getD b (Int.toNat (↑k : Int)) (0 : Int)) = true]) (by kernel_rfl) (by
    (try simp only [AllP, Int.toNat_natCast, ints_len, decide_eq_true_eq, decide_eq_false_iff_not, beq_eq_false_iff_ne, beq_iff_eq, bne_iff_ne, bne_eq_false_iff_eq, Bool.not_eq_true', Bool.not_eq_false', Int.not_lt, Int.not_le, gt_iff_lt, ge_iff_le, ne_eq, and_true, true_and])
    all_goals (repeat' (first | with_reducible assumption | with_reducible rfl | omega | with_reducible exact ints_get (by omega) | with_reducible apply And.intro | unfold inInt))) h
theorem H12_end {a b : List Int} {k : Nat} {Q : V → Aev.Rows → Prop} (hk : a.length ≤ k) (h : Q (B true) ([])) : Ends c0 0 (H12 a b k) Q :=
  Ends.fin c0_ok (gds [(14,false)]) 300 (ps := [decide ((↑k : Int) < (↑(List.length (ints a)) : Int)) = false]) (by kernel_rfl) (by
    (try simp only [AllP, Int.toNat_natCast, ints_len, decide_eq_true_eq, decide_eq_false_iff_not, beq_eq_false_iff_ne, beq_iff_eq, bne_iff_ne, bne_eq_false_iff_eq, Bool.not_eq_true', Bool.not_eq_false', Int.not_lt, Int.not_le, gt_iff_lt, ge_iff_le, ne_eq, and_true, true_and])
    all_goals (repeat' (first | with_reducible assumption | with_reducible rfl | omega | with_reducible exact ints_get (by omega) | with_reducible apply And.intro | unfold inInt))) h

theorem has_ends (l : List Int) (x : Int) (hb : l.length ≤ 4611686018427387904) : ∀ (n k : Nat), l.length - k = n → (∀ j, j < k → l.getD j 0 ≠ x) → Ends c0 0 (H25 l x k) (fun v rows => convV (liveAt rows) v = some (B (decide (x ∈ l)))) := by
  intro n
  induction n with
  | zero =>
    intro k hk hn
    refine H25_no (by omega) ?_
    have : decide (x ∈ l) = false := by
      rw [decide_eq_false_iff_not]
      intro hx
      obtain ⟨j, hj, he⟩ := List.getElem_of_mem hx
      exact hn j (by omega) (by simp [hj, he])
    rw [this]; rfl
  | succ n ih =>
    intro k hk hn
    by_cases he : l.getD k 0 = x
    · refine H25_yes (by omega) he ?_
      have : decide (x ∈ l) = true := by
        rw [decide_eq_true_eq]
        have hkl : k < l.length := by omega
        have : l.getD k 0 = l[k] := by simp [hkl]
        rw [← he, this]; exact List.getElem_mem _
      rw [this]; rfl
    · refine H25_turn (by omega) hb he (ih (k + 1) (by omega) fun j hj => ?_)
      rcases Nat.lt_or_ge j k with h | h
      · exact hn j h
      · have : j = k := by omega
        subst this; exact he

theorem has_rcs (l : List Int) (x : Int) (hb : l.length ≤ 4611686018427387904) : RCs PP 25 [L l, I x] [] (B (decide (x ∈ l))) :=
  rcs_of c0_ok (by kernel_rfl) (H25_go (has_ends l x hb _ 0 rfl fun j hj => by omega))

/-- at most 80 counts -/
def okC (l : List Int) : Bool := l.all (fun x => decide (1 ≤ x) && decide (x ≤ 4096)) && decide (l.length ≤ 80)

theorem counts_ends (l : List Int) (hb : l.length ≤ 4611686018427387904) : ∀ (n k : Nat), l.length - k = n → (∀ j, j < k → j < l.length → 1 ≤ l.getD j 0 ∧ l.getD j 0 ≤ 4096) → Ends c0 0 (H6 l k) (fun v rows => convV (liveAt rows) v = some (B (okC l))) := by
  have bad : ∀ k, k < l.length → ¬ (1 ≤ l.getD k 0 ∧ l.getD k 0 ≤ 4096) → okC l = false := by
    intro k hk h
    have hget : l.getD k 0 = l[k] := by simp [hk]
    unfold okC
    rw [Bool.and_eq_false_iff]
    left
    rw [List.all_eq_false]
    refine ⟨l[k], List.getElem_mem _, ?_⟩
    rw [← hget]
    simpa using h
  intro n
  induction n with
  | zero =>
    intro k hk hn
    refine H6_end (by omega) ?_
    have : okC l = decide (((ints l).length : Int) ≤ 80) := by
      unfold okC
      have h1 : l.all (fun x => decide (1 ≤ x) && decide (x ≤ 4096)) = true := by
        rw [List.all_eq_true]
        intro x hx
        obtain ⟨j, hj, he⟩ := List.getElem_of_mem hx
        have := hn j (by omega) hj
        have hget : l.getD j 0 = l[j] := by simp [hj]
        rw [hget, he] at this
        simpa using this
      rw [h1, Bool.true_and, ints_len, Bool.eq_iff_iff, decide_eq_true_eq, decide_eq_true_eq]
      omega
    rw [this]; rfl
  | succ n ih =>
    intro k hk hn
    by_cases h1 : 1 ≤ l.getD k 0
    · by_cases h2 : l.getD k 0 ≤ 4096
      · refine H6_turn (by omega) hb h1 h2 (ih (k + 1) (by omega) fun j hj hjl => ?_)
        rcases Nat.lt_or_ge j k with h | h
        · exact hn j h hjl
        · have : j = k := by omega
          subst this; exact ⟨h1, h2⟩
      · refine H6_high (by omega) h1 (by omega) ?_
        rw [bad k (by omega) (fun h => h2 h.2)]; rfl
    · refine H6_low (by omega) (by omega) ?_
      rw [bad k (by omega) (fun h => h1 h.1)]; rfl

theorem counts_rcs (l : List Int) (hb : l.length ≤ 4611686018427387904) : RCs PP 6 [L l, I 80] [] (B (okC l)) :=
  rcs_of c0_ok (by kernel_rfl) (H6_go (counts_ends l hb _ 0 rfl fun j hj => by omega))

/-- the sum at some places -/
def sumAt (a p : List Int) : Int := (p.map fun i => a.getD i.toNat 0).sum

theorem sum_ends (a p : List Int) (hb : p.length ≤ 1073741824) (hp : ∀ i ∈ p, 0 ≤ i ∧ i < a.length) (ha : ∀ x ∈ a, 0 ≤ x ∧ x ≤ 4096) : ∀ (n k : Nat), p.length - k = n → k ≤ p.length →
    Ends c0 0 (H15 a p (sumAt a (p.take k)) k) (fun v rows => convV (liveAt rows) v = some (I (sumAt a p))) := by
  have bd : ∀ (q : List Int), (∀ i ∈ q, 0 ≤ i ∧ i < a.length) → 0 ≤ sumAt a q ∧ sumAt a q ≤ 4096 * q.length := by
    intro q
    induction q with
    | nil => intro _; simp [sumAt]
    | cons i q ih =>
      intro h
      have := ih fun j hj => h j (List.mem_cons_of_mem _ hj)
      obtain ⟨h1, h2⟩ := h i (by simp)
      have hlt : i.toNat < a.length := by omega
      have h3 := ha a[i.toNat] (List.getElem_mem _)
      have hget : a.getD i.toNat 0 = a[i.toNat] := by simp [hlt]
      simp only [sumAt, List.map_cons, List.sum_cons, List.length_cons] at this ⊢
      rw [hget]
      omega
  intro n
  induction n with
  | zero =>
    intro k hk hkl
    refine H15_end (by omega) ?_
    rw [List.take_of_length_le (by omega)]; rfl
  | succ n ih =>
    intro k hk hkl
    have hlt : k < p.length := by omega
    have hget : p.getD k 0 = p[k] := by simp [hlt]
    have hin := hp p[k] (List.getElem_mem _)
    have ht : sumAt a (p.take (k + 1)) = sumAt a (p.take k) + a.getD (p.getD k 0).toNat 0 := by
      rw [List.take_succ_eq_append_getElem hlt]
      simp only [sumAt, List.map_append, List.sum_append, List.map_cons, List.map_nil, List.sum_cons, List.sum_nil, hget, Int.add_zero]
    have hbd := bd (p.take (k + 1)) (fun i hi => hp i (List.mem_of_mem_take hi))
    rw [List.length_take] at hbd
    rw [ht] at hbd
    refine H15_turn hlt (by omega) (by rw [hget]; exact hin.1) (by rw [hget]; exact hin.2) (lit_in _ (by omega)) ?_
    rw [← ht]
    exact ih (k + 1) (by omega) (by omega)

theorem sum_rcs (a p : List Int) (hb : p.length ≤ 1073741824) (hp : ∀ i ∈ p, 0 ≤ i ∧ i < a.length) (ha : ∀ x ∈ a, 0 ≤ x ∧ x ≤ 4096) : RCs PP 15 [L a, L p] [] (I (sumAt a p)) :=
  rcs_of c0_ok (by kernel_rfl) (H15_go (sum_ends a p hb hp ha _ 0 rfl (Nat.zero_le _)))

theorem same_ends (a b : List Int) (hl : a.length = b.length) (hb : a.length ≤ 4611686018427387904) : ∀ (n k : Nat), a.length - k = n → (∀ j, j < k → a.getD j 0 = b.getD j 0) → Ends c0 0 (H12 a b k) (fun v rows => convV (liveAt rows) v = some (B (decide (a = b)))) := by
  intro n
  induction n with
  | zero =>
    intro k hk hn
    refine H12_end (by omega) ?_
    have : a = b := by
      apply List.ext_getElem hl
      intro i h1 h2
      have := hn i (by omega)
      simpa [h1, h2] using this
    rw [decide_eq_true this]; rfl
  | succ n ih =>
    intro k hk hn
    by_cases he : a.getD k 0 = b.getD k 0
    · refine H12_turn (by omega) hl hb he (ih (k + 1) (by omega) fun j hj => ?_)
      rcases Nat.lt_or_ge j k with h | h
      · exact hn j h
      · have : j = k := by omega
        subst this; exact he
    · refine H12_ne (by omega) hl he ?_
      have : a ≠ b := fun e => he (by rw [e])
      rw [decide_eq_false this]; rfl

theorem same_rcs (a b : List Int) (hb : a.length ≤ 4611686018427387904) : RCs PP 12 [L a, L b] [] (B (decide (a = b))) := by
  refine rcs_of c0_ok (by kernel_rfl) ?_
  by_cases hl : a.length = b.length
  · exact H12_go hl (same_ends a b hl hb _ 0 rfl fun j hj => by omega)
  · refine H12_len hl ?_
    have : a ≠ b := fun e => hl (by rw [e])
    rw [decide_eq_false this]; rfl

end Go.Aev.M33
end
/- M33Table -/
section
namespace Go.Aev.M33
set_option maxRecDepth 1000000

/-- two slices as lists -/
def listOf2 (rows : Aev.Rows) (a b : V) : Option (List Prop × List D × List D) :=
  match listOf rows a, listOf rows b with
  | some (ps, x), some (qs, y) => some (ps ++ qs, x, y)
  | _, _ => none

def isInts (es : List D) : Prop := es = ints (es.map unI)
theorem isInts_ints (l : List Int) : isInts (ints l) := by unfold isInts; rw [unI_ints]

/-- what the plain functions answer -/
def tab1 (g : FuncId) (args : List V) (rows : Aev.Rows) : Option (List Prop × V) :=
  match g, args with
  | 8, [.d (.int .i64 n)] => some ([n ≤ 4096], I (cls n))
  | 9, [.d (.int .i64 n)] => some ([n ≤ 4096], I (cls n))
  | 25, [v, .d (.int .i64 x)] => match listOf rows v with
    | some (ps, es) => some (ps ++ [isInts es, es.length ≤ 4611686018427387904], B (decide (x ∈ es.map unI)))
    | none => none
  | 15, [v, u] => match listOf2 rows v u with
    | some (ps, es, fs) => some (ps ++ [isInts es, isInts fs, fs.length ≤ 1073741824, ∀ i ∈ fs.map unI, 0 ≤ i ∧ i < (es.map unI).length, ∀ x ∈ es.map unI, 0 ≤ x ∧ x ≤ 4096], I (sumAt (es.map unI) (fs.map unI)))
    | none => none
  | 12, [v, u] => match listOf2 rows v u with
    | some (ps, es, fs) => some (ps ++ [isInts es, isInts fs, es.length ≤ 4611686018427387904], B (decide (es.map unI = fs.map unI)))
    | none => none
  | _, _ => none

theorem listOf2_arg {rows : Aev.Rows} {a b : V} {ps : List Prop} {x y : List D} (h : listOf2 rows a b = some (ps, x, y)) (hp : AllP ps) : ArgsRel rows [a, b] [.d (.list x), .d (.list y)] := by
  unfold listOf2 at h
  split at h
  · rename_i ps' x' qs y' h1 h2
    cases h
    obtain ⟨k1, k2⟩ := AllP_append hp
    exact .cons (.list h1 k1) (.cons (.list h2 k2) .nil)
  · cases h

theorem map_len (es : List D) : (es.map unI).length = es.length := by simp

theorem tab1_ok {g : FuncId} {args : List V} {rows : Aev.Rows} {ps : List Prop} {v : V} (h : tab1 g args rows = some (ps, v)) (hp : AllP ps) : RCs PP g args rows v := by
  unfold tab1 at h
  split at h
  · cases h
    exact (class_rcs hp.1).of_lists (.cons (.data _) .nil)
  · cases h
    exact (refClass_rcs hp.1).of_lists (.cons (.data _) .nil)
  · split at h
    · rename_i qs es hl
      cases h
      obtain ⟨h1, h2, h3, _⟩ := AllP_append hp
      have := has_rcs (es.map unI) ‹Int› (by rw [map_len]; exact h3)
      refine this.of_lists (.cons ?_ (.cons (.data _) .nil))
      have e : L (es.map unI) = .d (.list es) := by unfold isInts at h2; rw [L, ← h2]
      rw [e]; exact .list hl h1
    · cases h
  · split at h
    · rename_i qs es fs hl
      cases h
      obtain ⟨h1, h2, h3, h4, h5, h6, _⟩ := AllP_append hp
      have := sum_rcs (es.map unI) (fs.map unI) (by rw [map_len]; exact h4) h5 h6
      refine this.of_lists ?_
      have e : L (es.map unI) = .d (.list es) := by unfold isInts at h2; rw [L, ← h2]
      have e' : L (fs.map unI) = .d (.list fs) := by unfold isInts at h3; rw [L, ← h3]
      rw [e, e']; exact listOf2_arg hl h1
    · cases h
  · split at h
    · rename_i qs es fs hl
      cases h
      obtain ⟨h1, h2, h3, h4, _⟩ := AllP_append hp
      have := same_rcs (es.map unI) (fs.map unI) (by rw [map_len]; exact h4)
      refine this.of_lists ?_
      have e : L (es.map unI) = .d (.list es) := by unfold isInts at h2; rw [L, ← h2]
      have e' : L (fs.map unI) = .d (.list fs) := by unfold isInts at h3; rw [L, ← h3]
      rw [e, e']; exact listOf2_arg hl h1
    · cases h
  · cases h

noncomputable def c1 : SCfg := mk (fun _ => true) tab1
theorem c1_ok : COK c1.cfg := mk_ok (fun g args rows ps v h hp => tab1_ok h hp)
end Go.Aev.M33
end
/- M33LeastDefs -/
section
namespace Go.Aev.M33
set_option maxRecDepth 1000000
theorem isInts_nil : isInts [] := rfl
/-- a slice of its own, not empty: its row is the first, or the second -/
abbrev SL (r : Nat) (l : List Int) : V := .sl r 1 0 l.length l.length false
abbrev RW (l : List Int) : Slot := .live (.dat 1 (ints l) false)
noncomputable def tdO : List AItem := (nextOf (sTo c1 {} (atLoop 2) 300 (start c1 29 [L [], I 0] []))).fr.todo
noncomputable def tdI : List AItem := (nextOf (sTo c1 (gds [(12,true)]) (atLoop 6) 300 (start c1 29 [L [], I 0] []))).fr.todo
noncomputable def Ho (v : V) (rows : Aev.Rows) (a : List Int) (cl : Int) : AS := hd 29 tdO 68 [(0, L a), (1, I cl), (5, v)] rows
noncomputable def Hi (v : V) (rows : Aev.Rows) (a : List Int) (cl b : Int) (k : Nat) : AS := hd 29 tdI 68 [(0, L a), (1, I cl), (5, v), (6, I b), (7, I k)] rows
noncomputable def tdU : List AItem := (nextOf (sTo c1 (gds [(12,false)]) (atLoop 2) 300 (Ho (SL 0 [0]) [RW [0]] [] 0))).fr.todo
noncomputable def Hu (out : List Int) (v : V) (rows : Aev.Rows) (a : List Int) (k : Nat) : AS := hd 29 tdU 68 [(0, L a), (5, SL 0 out), (8, v), (9, I k)] (RW out :: rows)
end Go.Aev.M33
end
/- M33LeastSn -/
section
namespace Go.Aev.M33
set_option maxRecDepth 1000000
set_option linter.unusedSimpArgs false
set_option linter.unusedVariables false
theorem Hi_n_start {a : List Int} {cl : Int} {Q : V → Aev.Rows → Prop}  (h : Ends c1 0 (Hi (.nil) [] a cl (-1) 0) Q) : Ends c1 0 (Ho (.nil) [] a cl) Q :=
  Ends.turn c1_ok (gds [(12,true)]) (atLoop 6) 300 [] [0, 1, 5, 6, 7] (ps := [true = true]) (by kernel_rfl) (by
    (try simp only [AllP, Int.toNat_natCast, ints_len, decide_eq_true_eq, decide_eq_false_iff_not, beq_eq_false_iff_ne, beq_iff_eq, bne_iff_ne, bne_eq_false_iff_eq, Bool.not_eq_true', Bool.not_eq_false', Int.not_lt, Int.not_le, gt_iff_lt, ge_iff_le, ne_eq, and_true, true_and, List.drop_zero, ints_take, ints_drop, List.take_length, unI_ints, List.map_nil, List.length_nil, List.not_mem_nil])
    all_goals (repeat' (first | with_reducible assumption | with_reducible rfl | omega | with_reducible exact ints_get (by omega) | with_reducible apply And.intro | unfold inInt | with_reducible exact isInts_ints _ | with_reducible exact isInts_nil))) h
theorem Hi_n_class {a : List Int} {cl b : Int} {k : Nat} {Q : V → Aev.Rows → Prop} (hk : k < a.length) (hb : a.length ≤ 1073741824) (h9 : a.getD k 0 ≤ 4096) (hc : cls (a.getD k 0) ≠ cl) (h : Ends c1 0 (Hi (.nil) [] a cl b (k + 1)) Q) : Ends c1 0 (Hi (.nil) [] a cl b k) Q :=
  Ends.turn c1_ok (gds [(16,true),(26,false)] [(19, el a),(36, el a),(40, el a)]) (atLoop 6) 300 [] [0, 1, 5, 6, 7] (ps := [decide ((↑k : Int) < (↑(List.length (ints a)) : Int)) = true, (0 : Int) ≤ (↑k : Int) ∧ (↑k : Int) < (↑(List.length (ints a)) : Int), (ints a)[Int.toNat (↑k : Int)]? = some (D.int IntKind.i64 (List.getD a (Int.toNat (↑k : Int)) (0 : Int))), nat_lit 1 = nat_lit 1, List.getD a (Int.toNat (↑k : Int)) (0 : Int) ≤ (4096 : Int), (cls (List.getD a (Int.toNat (↑k : Int)) (0 : Int)) == cl) = false, (cls (List.getD a (Int.toNat (↑k : Int)) (0 : Int)) == cl) = false, (cls (List.getD a (Int.toNat (↑k : Int)) (0 : Int)) == cl) = false, (cls (List.getD a (Int.toNat (↑k : Int)) (0 : Int)) == cl) = false, (cls (List.getD a (Int.toNat (↑k : Int)) (0 : Int)) == cl) = false, inInt ((↑k : Int) + (1 : Int))]) (by kernel_rfl) (by
    (try simp only [AllP, Int.toNat_natCast, ints_len, decide_eq_true_eq, decide_eq_false_iff_not, beq_eq_false_iff_ne, beq_iff_eq, bne_iff_ne, bne_eq_false_iff_eq, Bool.not_eq_true', Bool.not_eq_false', Int.not_lt, Int.not_le, gt_iff_lt, ge_iff_le, ne_eq, and_true, true_and, List.drop_zero, ints_take, ints_drop, List.take_length, unI_ints, List.map_nil, List.length_nil, List.not_mem_nil])
    all_goals (repeat' (first | with_reducible assumption | with_reducible rfl | omega | with_reducible exact ints_get (by omega) | with_reducible apply And.intro | unfold inInt | with_reducible exact isInts_ints _ | with_reducible exact isInts_nil))) h
theorem Hi_n_first {a : List Int} {cl b : Int} {k : Nat} {Q : V → Aev.Rows → Prop} (hk : k < a.length) (hb : a.length ≤ 1073741824) (h9 : a.getD k 0 ≤ 4096) (hc : cls (a.getD k 0) = cl)  (h0 : b < 0) (h : Ends c1 0 (Hi (.nil) [] a cl k (k + 1)) Q) : Ends c1 0 (Hi (.nil) [] a cl b k) Q :=
  Ends.turn c1_ok (gds [(16,true),(26,true),(32,true),(35,true)] [(19, el a),(36, el a),(40, el a)]) (atLoop 6) 300 [] [0, 1, 5, 6, 7] (ps := [decide ((↑k : Int) < (↑(List.length (ints a)) : Int)) = true, (0 : Int) ≤ (↑k : Int) ∧ (↑k : Int) < (↑(List.length (ints a)) : Int), (ints a)[Int.toNat (↑k : Int)]? = some (D.int IntKind.i64 (List.getD a (Int.toNat (↑k : Int)) (0 : Int))), nat_lit 1 = nat_lit 1, List.getD a (Int.toNat (↑k : Int)) (0 : Int) ≤ (4096 : Int), (cls (List.getD a (Int.toNat (↑k : Int)) (0 : Int)) == cl) = true, (cls (List.getD a (Int.toNat (↑k : Int)) (0 : Int)) == cl) = true, (cls (List.getD a (Int.toNat (↑k : Int)) (0 : Int)) == cl) = true, isInts [], nat_lit 0 ≤ nat_lit 4611686018427387904, (cls (List.getD a (Int.toNat (↑k : Int)) (0 : Int)) == cl) = true, (cls (List.getD a (Int.toNat (↑k : Int)) (0 : Int)) == cl) = true, true = true, true = true, true = true, decide (b < (0 : Int)) = true, decide (b < (0 : Int)) = true, decide (b < (0 : Int)) = true, decide (b < (0 : Int)) = true, decide (b < (0 : Int)) = true, decide (b < (0 : Int)) = true, decide (b < (0 : Int)) = true, decide (b < (0 : Int)) = true, decide (b < (0 : Int)) = true, true = true, decide (b < (0 : Int)) = true, true = true, inInt ((↑k : Int) + (1 : Int))]) (by kernel_rfl) (by
    (try simp only [AllP, Int.toNat_natCast, ints_len, decide_eq_true_eq, decide_eq_false_iff_not, beq_eq_false_iff_ne, beq_iff_eq, bne_iff_ne, bne_eq_false_iff_eq, Bool.not_eq_true', Bool.not_eq_false', Int.not_lt, Int.not_le, gt_iff_lt, ge_iff_le, ne_eq, and_true, true_and, List.drop_zero, ints_take, ints_drop, List.take_length, unI_ints, List.map_nil, List.length_nil, List.not_mem_nil])
    all_goals (repeat' (first | with_reducible assumption | with_reducible rfl | omega | with_reducible exact ints_get (by omega) | with_reducible apply And.intro | unfold inInt | with_reducible exact isInts_ints _ | with_reducible exact isInts_nil))) h
theorem Hi_n_less {a : List Int} {cl b : Int} {k : Nat} {Q : V → Aev.Rows → Prop} (hk : k < a.length) (hb : a.length ≤ 1073741824) (h9 : a.getD k 0 ≤ 4096) (hc : cls (a.getD k 0) = cl)  (h0 : 0 ≤ b) (h1 : b < a.length) (h2 : a.getD k 0 < a.getD b.toNat 0) (h : Ends c1 0 (Hi (.nil) [] a cl k (k + 1)) Q) : Ends c1 0 (Hi (.nil) [] a cl b k) Q :=
  Ends.turn c1_ok (gds [(16,true),(26,true),(32,true),(35,false),(46,true)] [(19, el a),(36, el a),(40, el a)]) (atLoop 6) 300 [] [0, 1, 5, 6, 7] (ps := [decide ((↑k : Int) < (↑(List.length (ints a)) : Int)) = true, (0 : Int) ≤ (↑k : Int) ∧ (↑k : Int) < (↑(List.length (ints a)) : Int), (ints a)[Int.toNat (↑k : Int)]? = some (D.int IntKind.i64 (List.getD a (Int.toNat (↑k : Int)) (0 : Int))), nat_lit 1 = nat_lit 1, List.getD a (Int.toNat (↑k : Int)) (0 : Int) ≤ (4096 : Int), (cls (List.getD a (Int.toNat (↑k : Int)) (0 : Int)) == cl) = true, (cls (List.getD a (Int.toNat (↑k : Int)) (0 : Int)) == cl) = true, (cls (List.getD a (Int.toNat (↑k : Int)) (0 : Int)) == cl) = true, isInts [], nat_lit 0 ≤ nat_lit 4611686018427387904, (cls (List.getD a (Int.toNat (↑k : Int)) (0 : Int)) == cl) = true, (cls (List.getD a (Int.toNat (↑k : Int)) (0 : Int)) == cl) = true, true = true, true = true, true = true, decide (b < (0 : Int)) = false, decide (b < (0 : Int)) = false, decide (b < (0 : Int)) = false, (0 : Int) ≤ (↑k : Int) ∧ (↑k : Int) < (↑(List.length (ints a)) : Int), (ints a)[Int.toNat (↑k : Int)]? = some (D.int IntKind.i64 (List.getD a (Int.toNat (↑k : Int)) (0 : Int))), nat_lit 1 = nat_lit 1, decide (b < (0 : Int)) = false, decide (b < (0 : Int)) = false, decide (b < (0 : Int)) = false, decide (b < (0 : Int)) = false, (0 : Int) ≤ b ∧ b < (↑(List.length (ints a)) : Int), (ints a)[Int.toNat b]? = some (D.int IntKind.i64 (List.getD a (Int.toNat b) (0 : Int))), nat_lit 1 = nat_lit 1, decide (b < (0 : Int)) = false, decide (b < (0 : Int)) = false, true = true, decide (b < (0 : Int)) = false, true = true, decide (List.getD a (Int.toNat (↑k : Int)) (0 : Int) < List.getD a (Int.toNat b) (0 : Int)) = true, inInt ((↑k : Int) + (1 : Int))]) (by kernel_rfl) (by
    (try simp only [AllP, Int.toNat_natCast, ints_len, decide_eq_true_eq, decide_eq_false_iff_not, beq_eq_false_iff_ne, beq_iff_eq, bne_iff_ne, bne_eq_false_iff_eq, Bool.not_eq_true', Bool.not_eq_false', Int.not_lt, Int.not_le, gt_iff_lt, ge_iff_le, ne_eq, and_true, true_and, List.drop_zero, ints_take, ints_drop, List.take_length, unI_ints, List.map_nil, List.length_nil, List.not_mem_nil])
    all_goals (repeat' (first | with_reducible assumption | with_reducible rfl | omega | with_reducible exact ints_get (by omega) | with_reducible apply And.intro | unfold inInt | with_reducible exact isInts_ints _ | with_reducible exact isInts_nil))) h
theorem Hi_n_more {a : List Int} {cl b : Int} {k : Nat} {Q : V → Aev.Rows → Prop} (hk : k < a.length) (hb : a.length ≤ 1073741824) (h9 : a.getD k 0 ≤ 4096) (hc : cls (a.getD k 0) = cl)  (h0 : 0 ≤ b) (h1 : b < a.length) (h2 : a.getD b.toNat 0 ≤ a.getD k 0) (h : Ends c1 0 (Hi (.nil) [] a cl b (k + 1)) Q) : Ends c1 0 (Hi (.nil) [] a cl b k) Q :=
  Ends.turn c1_ok (gds [(16,true),(26,true),(32,true),(35,false),(46,false)] [(19, el a),(36, el a),(40, el a)]) (atLoop 6) 300 [] [0, 1, 5, 6, 7] (ps := [decide ((↑k : Int) < (↑(List.length (ints a)) : Int)) = true, (0 : Int) ≤ (↑k : Int) ∧ (↑k : Int) < (↑(List.length (ints a)) : Int), (ints a)[Int.toNat (↑k : Int)]? = some (D.int IntKind.i64 (List.getD a (Int.toNat (↑k : Int)) (0 : Int))), nat_lit 1 = nat_lit 1, List.getD a (Int.toNat (↑k : Int)) (0 : Int) ≤ (4096 : Int), (cls (List.getD a (Int.toNat (↑k : Int)) (0 : Int)) == cl) = true, (cls (List.getD a (Int.toNat (↑k : Int)) (0 : Int)) == cl) = true, (cls (List.getD a (Int.toNat (↑k : Int)) (0 : Int)) == cl) = true, isInts [], nat_lit 0 ≤ nat_lit 4611686018427387904, (cls (List.getD a (Int.toNat (↑k : Int)) (0 : Int)) == cl) = true, (cls (List.getD a (Int.toNat (↑k : Int)) (0 : Int)) == cl) = true, true = true, true = true, true = true, decide (b < (0 : Int)) = false, decide (b < (0 : Int)) = false, decide (b < (0 : Int)) = false, (0 : Int) ≤ (↑k : Int) ∧ (↑k : Int) < (↑(List.length (ints a)) : Int), (ints a)[Int.toNat (↑k : Int)]? = some (D.int IntKind.i64 (List.getD a (Int.toNat (↑k : Int)) (0 : Int))), nat_lit 1 = nat_lit 1, decide (b < (0 : Int)) = false, decide (b < (0 : Int)) = false, decide (b < (0 : Int)) = false, decide (b < (0 : Int)) = false, (0 : Int) ≤ b ∧ b < (↑(List.length (ints a)) : Int), (ints a)[Int.toNat b]? = some (D.int IntKind.i64 (List.getD a (Int.toNat b) (0 : Int))), nat_lit 1 = nat_lit 1, decide (b < (0 : Int)) = false, decide (b < (0 : Int)) = false, true = true, decide (b < (0 : Int)) = false, true = true, decide (List.getD a (Int.toNat (↑k : Int)) (0 : Int) < List.getD a (Int.toNat b) (0 : Int)) = false, inInt ((↑k : Int) + (1 : Int))]) (by kernel_rfl) (by
    (try simp only [AllP, Int.toNat_natCast, ints_len, decide_eq_true_eq, decide_eq_false_iff_not, beq_eq_false_iff_ne, beq_iff_eq, bne_iff_ne, bne_eq_false_iff_eq, Bool.not_eq_true', Bool.not_eq_false', Int.not_lt, Int.not_le, gt_iff_lt, ge_iff_le, ne_eq, and_true, true_and, List.drop_zero, ints_take, ints_drop, List.take_length, unI_ints, List.map_nil, List.length_nil, List.not_mem_nil])
    all_goals (repeat' (first | with_reducible assumption | with_reducible rfl | omega | with_reducible exact ints_get (by omega) | with_reducible apply And.intro | unfold inInt | with_reducible exact isInts_ints _ | with_reducible exact isInts_nil))) h
theorem Hi_n_none {a : List Int} {cl b : Int} {k : Nat} {Q : V → Aev.Rows → Prop} (hk : a.length ≤ k) (h0 : b < 0) (h : Q (.nil) ([])) : Ends c1 0 (Hi (.nil) [] a cl b k) Q :=
  Ends.fin c1_ok (gds [(16,false),(49,true)]) 300 (ps := [decide ((↑k : Int) < (↑(List.length (ints a)) : Int)) = false, decide (b < (0 : Int)) = true]) (by kernel_rfl) (by
    (try simp only [AllP, Int.toNat_natCast, ints_len, decide_eq_true_eq, decide_eq_false_iff_not, beq_eq_false_iff_ne, beq_iff_eq, bne_iff_ne, bne_eq_false_iff_eq, Bool.not_eq_true', Bool.not_eq_false', Int.not_lt, Int.not_le, gt_iff_lt, ge_iff_le, ne_eq, and_true, true_and, List.drop_zero, ints_take, ints_drop, List.take_length, unI_ints, List.map_nil, List.length_nil, List.not_mem_nil])
    all_goals (repeat' (first | with_reducible assumption | with_reducible rfl | omega | with_reducible exact ints_get (by omega) | with_reducible apply And.intro | unfold inInt | with_reducible exact isInts_ints _ | with_reducible exact isInts_nil))) h
theorem Hi_n_app {a : List Int} {cl b : Int} {k : Nat} {Q : V → Aev.Rows → Prop} (hk : a.length ≤ k) (h0 : 0 ≤ b) (h : Ends c1 0 (Ho (.sl 0 1 0 1 1 false) [.live (.dat 1 (ints [b]) false)] a cl) Q) : Ends c1 0 (Hi (.nil) [] a cl b k) Q :=
  Ends.turn c1_ok (gds [(16,false),(49,false)] [] 1) (atLoop 2) 300 [1] [0, 1, 5] (ps := [decide ((↑k : Int) < (↑(List.length (ints a)) : Int)) = false, decide (b < (0 : Int)) = false, nat_lit 1 = nat_lit 1 ∧ nat_lit 1 = nat_lit 1 ∧ nat_lit 1 ≤ nat_lit 1, nat_lit 0 < nat_lit 1 ∧   nat_lit 1 ≠ nat_lit 0 ∧ nat_lit 16 ≤ nat_lit 281474976710656 ∧ nat_lit 1 ≤ nat_lit 4611686018427387904]) (by kernel_rfl) (by
    (try simp only [AllP, Int.toNat_natCast, ints_len, decide_eq_true_eq, decide_eq_false_iff_not, beq_eq_false_iff_ne, beq_iff_eq, bne_iff_ne, bne_eq_false_iff_eq, Bool.not_eq_true', Bool.not_eq_false', Int.not_lt, Int.not_le, gt_iff_lt, ge_iff_le, ne_eq, and_true, true_and, List.drop_zero, ints_take, ints_drop, List.take_length, unI_ints, List.map_nil, List.length_nil, List.not_mem_nil])
    all_goals (repeat' (first | with_reducible assumption | with_reducible rfl | omega | with_reducible exact ints_get (by omega) | with_reducible apply And.intro | unfold inInt | with_reducible exact isInts_ints _ | with_reducible exact isInts_nil))) h
end Go.Aev.M33
end
/- M33LeastSs -/
section
namespace Go.Aev.M33
set_option maxRecDepth 1000000
set_option linter.unusedSimpArgs false
set_option linter.unusedVariables false
theorem Hi_s_start {out : List Int} {a : List Int} {cl : Int} {Q : V → Aev.Rows → Prop} (h4 : out.length < 4) (h : Ends c1 0 (Hi (SL 0 out) [RW out] a cl (-1) 0) Q) : Ends c1 0 (Ho (SL 0 out) [RW out] a cl) Q :=
  Ends.turn c1_ok (gds [(12,true)]) (atLoop 6) 300 [0] [0, 1, 5, 6, 7] (ps := [decide ((↑(List.length out) : Int) < (4 : Int)) = true]) (by kernel_rfl) (by
    (try simp only [AllP, Int.toNat_natCast, ints_len, decide_eq_true_eq, decide_eq_false_iff_not, beq_eq_false_iff_ne, beq_iff_eq, bne_iff_ne, bne_eq_false_iff_eq, Bool.not_eq_true', Bool.not_eq_false', Int.not_lt, Int.not_le, gt_iff_lt, ge_iff_le, ne_eq, and_true, true_and, List.drop_zero, ints_take, ints_drop, List.take_length, unI_ints, List.map_nil, List.length_nil, List.not_mem_nil])
    all_goals (repeat' (first | with_reducible assumption | with_reducible rfl | omega | with_reducible exact ints_get (by omega) | with_reducible apply And.intro | unfold inInt | with_reducible exact isInts_ints _ | with_reducible exact isInts_nil))) h
theorem Hi_s_class {out : List Int} {a : List Int} {cl b : Int} {k : Nat} {Q : V → Aev.Rows → Prop} (hk : k < a.length) (hb : a.length ≤ 1073741824) (h9 : a.getD k 0 ≤ 4096) (hc : cls (a.getD k 0) ≠ cl) (h : Ends c1 0 (Hi (SL 0 out) [RW out] a cl b (k + 1)) Q) : Ends c1 0 (Hi (SL 0 out) [RW out] a cl b k) Q :=
  Ends.turn c1_ok (gds [(16,true),(26,false)] [(19, el a),(36, el a),(40, el a)]) (atLoop 6) 300 [0] [0, 1, 5, 6, 7] (ps := [decide ((↑k : Int) < (↑(List.length (ints a)) : Int)) = true, (0 : Int) ≤ (↑k : Int) ∧ (↑k : Int) < (↑(List.length (ints a)) : Int), (ints a)[Int.toNat (↑k : Int)]? = some (D.int IntKind.i64 (List.getD a (Int.toNat (↑k : Int)) (0 : Int))), nat_lit 1 = nat_lit 1, List.getD a (Int.toNat (↑k : Int)) (0 : Int) ≤ (4096 : Int), (cls (List.getD a (Int.toNat (↑k : Int)) (0 : Int)) == cl) = false, (cls (List.getD a (Int.toNat (↑k : Int)) (0 : Int)) == cl) = false, (cls (List.getD a (Int.toNat (↑k : Int)) (0 : Int)) == cl) = false, (cls (List.getD a (Int.toNat (↑k : Int)) (0 : Int)) == cl) = false, (cls (List.getD a (Int.toNat (↑k : Int)) (0 : Int)) == cl) = false, inInt ((↑k : Int) + (1 : Int))]) (by kernel_rfl) (by
    (try simp only [AllP, Int.toNat_natCast, ints_len, decide_eq_true_eq, decide_eq_false_iff_not, beq_eq_false_iff_ne, beq_iff_eq, bne_iff_ne, bne_eq_false_iff_eq, Bool.not_eq_true', Bool.not_eq_false', Int.not_lt, Int.not_le, gt_iff_lt, ge_iff_le, ne_eq, and_true, true_and, List.drop_zero, ints_take, ints_drop, List.take_length, unI_ints, List.map_nil, List.length_nil, List.not_mem_nil])
    all_goals (repeat' (first | with_reducible assumption | with_reducible rfl | omega | with_reducible exact ints_get (by omega) | with_reducible apply And.intro | unfold inInt | with_reducible exact isInts_ints _ | with_reducible exact isInts_nil))) h
theorem Hi_s_has {out : List Int} {a : List Int} {cl b : Int} {k : Nat} {Q : V → Aev.Rows → Prop} (hk : k < a.length) (hb : a.length ≤ 1073741824) (h9 : a.getD k 0 ≤ 4096) (hl : out.length ≤ 4) (hc : cls (a.getD k 0) = cl) (hm : (k : Int) ∈ out) (h : Ends c1 0 (Hi (SL 0 out) [RW out] a cl b (k + 1)) Q) : Ends c1 0 (Hi (SL 0 out) [RW out] a cl b k) Q :=
  Ends.turn c1_ok (gds [(16,true),(26,true),(32,false)] [(19, el a),(36, el a),(40, el a)]) (atLoop 6) 300 [0] [0, 1, 5, 6, 7] (ps := [decide ((↑k : Int) < (↑(List.length (ints a)) : Int)) = true, (0 : Int) ≤ (↑k : Int) ∧ (↑k : Int) < (↑(List.length (ints a)) : Int), (ints a)[Int.toNat (↑k : Int)]? = some (D.int IntKind.i64 (List.getD a (Int.toNat (↑k : Int)) (0 : Int))), nat_lit 1 = nat_lit 1, List.getD a (Int.toNat (↑k : Int)) (0 : Int) ≤ (4096 : Int), (cls (List.getD a (Int.toNat (↑k : Int)) (0 : Int)) == cl) = true, (cls (List.getD a (Int.toNat (↑k : Int)) (0 : Int)) == cl) = true, (cls (List.getD a (Int.toNat (↑k : Int)) (0 : Int)) == cl) = true, nat_lit 1 = nat_lit 1 ∧ nat_lit 0 + List.length out ≤ List.length (ints out), isInts (List.take (List.length out) (List.drop (nat_lit 0) (ints out))), List.length (List.take (List.length out) (List.drop (nat_lit 0) (ints out))) ≤ nat_lit 4611686018427387904, (cls (List.getD a (Int.toNat (↑k : Int)) (0 : Int)) == cl) = true, (cls (List.getD a (Int.toNat (↑k : Int)) (0 : Int)) == cl) = true, (!decide ((↑k : Int) ∈ List.map unI (List.take (List.length out) (List.drop (nat_lit 0) (ints out))))) = false, (!decide ((↑k : Int) ∈ List.map unI (List.take (List.length out) (List.drop (nat_lit 0) (ints out))))) = false, (!decide ((↑k : Int) ∈ List.map unI (List.take (List.length out) (List.drop (nat_lit 0) (ints out))))) = false, (!decide ((↑k : Int) ∈ List.map unI (List.take (List.length out) (List.drop (nat_lit 0) (ints out))))) = false, (!decide ((↑k : Int) ∈ List.map unI (List.take (List.length out) (List.drop (nat_lit 0) (ints out))))) = false, inInt ((↑k : Int) + (1 : Int))]) (by kernel_rfl) (by
    (try simp only [AllP, Int.toNat_natCast, ints_len, decide_eq_true_eq, decide_eq_false_iff_not, beq_eq_false_iff_ne, beq_iff_eq, bne_iff_ne, bne_eq_false_iff_eq, Bool.not_eq_true', Bool.not_eq_false', Int.not_lt, Int.not_le, gt_iff_lt, ge_iff_le, ne_eq, and_true, true_and, List.drop_zero, ints_take, ints_drop, List.take_length, unI_ints, List.map_nil, List.length_nil, List.not_mem_nil])
    all_goals (repeat' (first | with_reducible assumption | with_reducible rfl | omega | with_reducible exact ints_get (by omega) | with_reducible apply And.intro | unfold inInt | with_reducible exact isInts_ints _ | with_reducible exact isInts_nil))) h
theorem Hi_s_first {out : List Int} {a : List Int} {cl b : Int} {k : Nat} {Q : V → Aev.Rows → Prop} (hk : k < a.length) (hb : a.length ≤ 1073741824) (h9 : a.getD k 0 ≤ 4096) (hl : out.length ≤ 4) (hc : cls (a.getD k 0) = cl) (hm : (k : Int) ∉ out) (h0 : b < 0) (h : Ends c1 0 (Hi (SL 0 out) [RW out] a cl k (k + 1)) Q) : Ends c1 0 (Hi (SL 0 out) [RW out] a cl b k) Q :=
  Ends.turn c1_ok (gds [(16,true),(26,true),(32,true),(35,true)] [(19, el a),(36, el a),(40, el a)]) (atLoop 6) 300 [0] [0, 1, 5, 6, 7] (ps := [decide ((↑k : Int) < (↑(List.length (ints a)) : Int)) = true, (0 : Int) ≤ (↑k : Int) ∧ (↑k : Int) < (↑(List.length (ints a)) : Int), (ints a)[Int.toNat (↑k : Int)]? = some (D.int IntKind.i64 (List.getD a (Int.toNat (↑k : Int)) (0 : Int))), nat_lit 1 = nat_lit 1, List.getD a (Int.toNat (↑k : Int)) (0 : Int) ≤ (4096 : Int), (cls (List.getD a (Int.toNat (↑k : Int)) (0 : Int)) == cl) = true, (cls (List.getD a (Int.toNat (↑k : Int)) (0 : Int)) == cl) = true, (cls (List.getD a (Int.toNat (↑k : Int)) (0 : Int)) == cl) = true, nat_lit 1 = nat_lit 1 ∧ nat_lit 0 + List.length out ≤ List.length (ints out), isInts (List.take (List.length out) (List.drop (nat_lit 0) (ints out))), List.length (List.take (List.length out) (List.drop (nat_lit 0) (ints out))) ≤ nat_lit 4611686018427387904, (cls (List.getD a (Int.toNat (↑k : Int)) (0 : Int)) == cl) = true, (cls (List.getD a (Int.toNat (↑k : Int)) (0 : Int)) == cl) = true, (!decide ((↑k : Int) ∈ List.map unI (List.take (List.length out) (List.drop (nat_lit 0) (ints out))))) = true, (!decide ((↑k : Int) ∈ List.map unI (List.take (List.length out) (List.drop (nat_lit 0) (ints out))))) = true, (!decide ((↑k : Int) ∈ List.map unI (List.take (List.length out) (List.drop (nat_lit 0) (ints out))))) = true, decide (b < (0 : Int)) = true, decide (b < (0 : Int)) = true, decide (b < (0 : Int)) = true, decide (b < (0 : Int)) = true, decide (b < (0 : Int)) = true, decide (b < (0 : Int)) = true, decide (b < (0 : Int)) = true, decide (b < (0 : Int)) = true, decide (b < (0 : Int)) = true, (!decide ((↑k : Int) ∈ List.map unI (List.take (List.length out) (List.drop (nat_lit 0) (ints out))))) = true, decide (b < (0 : Int)) = true, (!decide ((↑k : Int) ∈ List.map unI (List.take (List.length out) (List.drop (nat_lit 0) (ints out))))) = true, inInt ((↑k : Int) + (1 : Int))]) (by kernel_rfl) (by
    (try simp only [AllP, Int.toNat_natCast, ints_len, decide_eq_true_eq, decide_eq_false_iff_not, beq_eq_false_iff_ne, beq_iff_eq, bne_iff_ne, bne_eq_false_iff_eq, Bool.not_eq_true', Bool.not_eq_false', Int.not_lt, Int.not_le, gt_iff_lt, ge_iff_le, ne_eq, and_true, true_and, List.drop_zero, ints_take, ints_drop, List.take_length, unI_ints, List.map_nil, List.length_nil, List.not_mem_nil])
    all_goals (repeat' (first | with_reducible assumption | with_reducible rfl | omega | with_reducible exact ints_get (by omega) | with_reducible apply And.intro | unfold inInt | with_reducible exact isInts_ints _ | with_reducible exact isInts_nil))) h
theorem Hi_s_less {out : List Int} {a : List Int} {cl b : Int} {k : Nat} {Q : V → Aev.Rows → Prop} (hk : k < a.length) (hb : a.length ≤ 1073741824) (h9 : a.getD k 0 ≤ 4096) (hl : out.length ≤ 4) (hc : cls (a.getD k 0) = cl) (hm : (k : Int) ∉ out) (h0 : 0 ≤ b) (h1 : b < a.length) (h2 : a.getD k 0 < a.getD b.toNat 0) (h : Ends c1 0 (Hi (SL 0 out) [RW out] a cl k (k + 1)) Q) : Ends c1 0 (Hi (SL 0 out) [RW out] a cl b k) Q :=
  Ends.turn c1_ok (gds [(16,true),(26,true),(32,true),(35,false),(46,true)] [(19, el a),(36, el a),(40, el a)]) (atLoop 6) 300 [0] [0, 1, 5, 6, 7] (ps := [decide ((↑k : Int) < (↑(List.length (ints a)) : Int)) = true, (0 : Int) ≤ (↑k : Int) ∧ (↑k : Int) < (↑(List.length (ints a)) : Int), (ints a)[Int.toNat (↑k : Int)]? = some (D.int IntKind.i64 (List.getD a (Int.toNat (↑k : Int)) (0 : Int))), nat_lit 1 = nat_lit 1, List.getD a (Int.toNat (↑k : Int)) (0 : Int) ≤ (4096 : Int), (cls (List.getD a (Int.toNat (↑k : Int)) (0 : Int)) == cl) = true, (cls (List.getD a (Int.toNat (↑k : Int)) (0 : Int)) == cl) = true, (cls (List.getD a (Int.toNat (↑k : Int)) (0 : Int)) == cl) = true, nat_lit 1 = nat_lit 1 ∧ nat_lit 0 + List.length out ≤ List.length (ints out), isInts (List.take (List.length out) (List.drop (nat_lit 0) (ints out))), List.length (List.take (List.length out) (List.drop (nat_lit 0) (ints out))) ≤ nat_lit 4611686018427387904, (cls (List.getD a (Int.toNat (↑k : Int)) (0 : Int)) == cl) = true, (cls (List.getD a (Int.toNat (↑k : Int)) (0 : Int)) == cl) = true, (!decide ((↑k : Int) ∈ List.map unI (List.take (List.length out) (List.drop (nat_lit 0) (ints out))))) = true, (!decide ((↑k : Int) ∈ List.map unI (List.take (List.length out) (List.drop (nat_lit 0) (ints out))))) = true, (!decide ((↑k : Int) ∈ List.map unI (List.take (List.length out) (List.drop (nat_lit 0) (ints out))))) = true, decide (b < (0 : Int)) = false, decide (b < (0 : Int)) = false, decide (b < (0 : Int)) = false, (0 : Int) ≤ (↑k : Int) ∧ (↑k : Int) < (↑(List.length (ints a)) : Int), (ints a)[Int.toNat (↑k : Int)]? = some (D.int IntKind.i64 (List.getD a (Int.toNat (↑k : Int)) (0 : Int))), nat_lit 1 = nat_lit 1, decide (b < (0 : Int)) = false, decide (b < (0 : Int)) = false, decide (b < (0 : Int)) = false, decide (b < (0 : Int)) = false, (0 : Int) ≤ b ∧ b < (↑(List.length (ints a)) : Int), (ints a)[Int.toNat b]? = some (D.int IntKind.i64 (List.getD a (Int.toNat b) (0 : Int))), nat_lit 1 = nat_lit 1, decide (b < (0 : Int)) = false, decide (b < (0 : Int)) = false, (!decide ((↑k : Int) ∈ List.map unI (List.take (List.length out) (List.drop (nat_lit 0) (ints out))))) = true, decide (b < (0 : Int)) = false, (!decide ((↑k : Int) ∈ List.map unI (List.take (List.length out) (List.drop (nat_lit 0) (ints out))))) = true, decide (List.getD a (Int.toNat (↑k : Int)) (0 : Int) < List.getD a (Int.toNat b) (0 : Int)) = true, inInt ((↑k : Int) + (1 : Int))]) (by kernel_rfl) (by
    (try simp only [AllP, Int.toNat_natCast, ints_len, decide_eq_true_eq, decide_eq_false_iff_not, beq_eq_false_iff_ne, beq_iff_eq, bne_iff_ne, bne_eq_false_iff_eq, Bool.not_eq_true', Bool.not_eq_false', Int.not_lt, Int.not_le, gt_iff_lt, ge_iff_le, ne_eq, and_true, true_and, List.drop_zero, ints_take, ints_drop, List.take_length, unI_ints, List.map_nil, List.length_nil, List.not_mem_nil])
    all_goals (repeat' (first | with_reducible assumption | with_reducible rfl | omega | with_reducible exact ints_get (by omega) | with_reducible apply And.intro | unfold inInt | with_reducible exact isInts_ints _ | with_reducible exact isInts_nil))) h
theorem Hi_s_more {out : List Int} {a : List Int} {cl b : Int} {k : Nat} {Q : V → Aev.Rows → Prop} (hk : k < a.length) (hb : a.length ≤ 1073741824) (h9 : a.getD k 0 ≤ 4096) (hl : out.length ≤ 4) (hc : cls (a.getD k 0) = cl) (hm : (k : Int) ∉ out) (h0 : 0 ≤ b) (h1 : b < a.length) (h2 : a.getD b.toNat 0 ≤ a.getD k 0) (h : Ends c1 0 (Hi (SL 0 out) [RW out] a cl b (k + 1)) Q) : Ends c1 0 (Hi (SL 0 out) [RW out] a cl b k) Q :=
  Ends.turn c1_ok (gds [(16,true),(26,true),(32,true),(35,false),(46,false)] [(19, el a),(36, el a),(40, el a)]) (atLoop 6) 300 [0] [0, 1, 5, 6, 7] (ps := [decide ((↑k : Int) < (↑(List.length (ints a)) : Int)) = true, (0 : Int) ≤ (↑k : Int) ∧ (↑k : Int) < (↑(List.length (ints a)) : Int), (ints a)[Int.toNat (↑k : Int)]? = some (D.int IntKind.i64 (List.getD a (Int.toNat (↑k : Int)) (0 : Int))), nat_lit 1 = nat_lit 1, List.getD a (Int.toNat (↑k : Int)) (0 : Int) ≤ (4096 : Int), (cls (List.getD a (Int.toNat (↑k : Int)) (0 : Int)) == cl) = true, (cls (List.getD a (Int.toNat (↑k : Int)) (0 : Int)) == cl) = true, (cls (List.getD a (Int.toNat (↑k : Int)) (0 : Int)) == cl) = true, nat_lit 1 = nat_lit 1 ∧ nat_lit 0 + List.length out ≤ List.length (ints out), isInts (List.take (List.length out) (List.drop (nat_lit 0) (ints out))), List.length (List.take (List.length out) (List.drop (nat_lit 0) (ints out))) ≤ nat_lit 4611686018427387904, (cls (List.getD a (Int.toNat (↑k : Int)) (0 : Int)) == cl) = true, (cls (List.getD a (Int.toNat (↑k : Int)) (0 : Int)) == cl) = true, (!decide ((↑k : Int) ∈ List.map unI (List.take (List.length out) (List.drop (nat_lit 0) (ints out))))) = true, (!decide ((↑k : Int) ∈ List.map unI (List.take (List.length out) (List.drop (nat_lit 0) (ints out))))) = true, (!decide ((↑k : Int) ∈ List.map unI (List.take (List.length out) (List.drop (nat_lit 0) (ints out))))) = true, decide (b < (0 : Int)) = false, decide (b < (0 : Int)) = false, decide (b < (0 : Int)) = false, (0 : Int) ≤ (↑k : Int) ∧ (↑k : Int) < (↑(List.length (ints a)) : Int), (ints a)[Int.toNat (↑k : Int)]? = some (D.int IntKind.i64 (List.getD a (Int.toNat (↑k : Int)) (0 : Int))), nat_lit 1 = nat_lit 1, decide (b < (0 : Int)) = false, decide (b < (0 : Int)) = false, decide (b < (0 : Int)) = false, decide (b < (0 : Int)) = false, (0 : Int) ≤ b ∧ b < (↑(List.length (ints a)) : Int), (ints a)[Int.toNat b]? = some (D.int IntKind.i64 (List.getD a (Int.toNat b) (0 : Int))), nat_lit 1 = nat_lit 1, decide (b < (0 : Int)) = false, decide (b < (0 : Int)) = false, (!decide ((↑k : Int) ∈ List.map unI (List.take (List.length out) (List.drop (nat_lit 0) (ints out))))) = true, decide (b < (0 : Int)) = false, (!decide ((↑k : Int) ∈ List.map unI (List.take (List.length out) (List.drop (nat_lit 0) (ints out))))) = true, decide (List.getD a (Int.toNat (↑k : Int)) (0 : Int) < List.getD a (Int.toNat b) (0 : Int)) = false, inInt ((↑k : Int) + (1 : Int))]) (by kernel_rfl) (by
    (try simp only [AllP, Int.toNat_natCast, ints_len, decide_eq_true_eq, decide_eq_false_iff_not, beq_eq_false_iff_ne, beq_iff_eq, bne_iff_ne, bne_eq_false_iff_eq, Bool.not_eq_true', Bool.not_eq_false', Int.not_lt, Int.not_le, gt_iff_lt, ge_iff_le, ne_eq, and_true, true_and, List.drop_zero, ints_take, ints_drop, List.take_length, unI_ints, List.map_nil, List.length_nil, List.not_mem_nil])
    all_goals (repeat' (first | with_reducible assumption | with_reducible rfl | omega | with_reducible exact ints_get (by omega) | with_reducible apply And.intro | unfold inInt | with_reducible exact isInts_ints _ | with_reducible exact isInts_nil))) h
theorem Hi_s_none {out : List Int} {a : List Int} {cl b : Int} {k : Nat} {Q : V → Aev.Rows → Prop} (hk : a.length ≤ k) (h0 : b < 0) (h : Q (.nil) ([RW out])) : Ends c1 0 (Hi (SL 0 out) [RW out] a cl b k) Q :=
  Ends.fin c1_ok (gds [(16,false),(49,true)]) 300 (ps := [decide ((↑k : Int) < (↑(List.length (ints a)) : Int)) = false, decide (b < (0 : Int)) = true]) (by kernel_rfl) (by
    (try simp only [AllP, Int.toNat_natCast, ints_len, decide_eq_true_eq, decide_eq_false_iff_not, beq_eq_false_iff_ne, beq_iff_eq, bne_iff_ne, bne_eq_false_iff_eq, Bool.not_eq_true', Bool.not_eq_false', Int.not_lt, Int.not_le, gt_iff_lt, ge_iff_le, ne_eq, and_true, true_and, List.drop_zero, ints_take, ints_drop, List.take_length, unI_ints, List.map_nil, List.length_nil, List.not_mem_nil])
    all_goals (repeat' (first | with_reducible assumption | with_reducible rfl | omega | with_reducible exact ints_get (by omega) | with_reducible apply And.intro | unfold inInt | with_reducible exact isInts_ints _ | with_reducible exact isInts_nil))) h
theorem Hi_s_app {out : List Int} {a : List Int} {cl b : Int} {k : Nat} {Q : V → Aev.Rows → Prop} (hk : a.length ≤ k) (h0 : 0 ≤ b) (h1 : 0 < out.length) (h4 : out.length < 4) (h : Ends c1 0 (Ho (.sl 0 1 0 (out.length + 1) (out.length + 1) false) [.live (.dat 1 (((ints out).drop 0).take out.length ++ ints [b]) false)] a cl) Q) : Ends c1 0 (Hi (SL 0 out) [RW out] a cl b k) Q :=
  Ends.turn c1_ok (gds [(16,false),(49,false)] [] 1) (atLoop 2) 300 [2] [0, 1, 5] (ps := [decide ((↑k : Int) < (↑(List.length (ints a)) : Int)) = false, decide (b < (0 : Int)) = false, nat_lit 1 = nat_lit 1 ∧ nat_lit 1 = nat_lit 1 ∧ nat_lit 1 ≤ nat_lit 1, nat_lit 0 < nat_lit 1 ∧   nat_lit 1 ≠ nat_lit 0 ∧     nat_lit 1 = nat_lit 1 ∧       nat_lit 1 = nat_lit 1 ∧         nat_lit 0 + List.length out ≤ List.length (ints out) ∧           ¬List.length out + nat_lit 1 ≤ List.length out ∧             nat_lit 2 * (List.length out + nat_lit 1) * nat_lit 8 ≤ nat_lit 281474976710656 ∧               List.length out + nat_lit 1 ≤ nat_lit 4611686018427387904]) (by kernel_rfl) (by
    (try simp only [AllP, Int.toNat_natCast, ints_len, decide_eq_true_eq, decide_eq_false_iff_not, beq_eq_false_iff_ne, beq_iff_eq, bne_iff_ne, bne_eq_false_iff_eq, Bool.not_eq_true', Bool.not_eq_false', Int.not_lt, Int.not_le, gt_iff_lt, ge_iff_le, ne_eq, and_true, true_and, List.drop_zero, ints_take, ints_drop, List.take_length, unI_ints, List.map_nil, List.length_nil, List.not_mem_nil])
    all_goals (repeat' (first | with_reducible assumption | with_reducible rfl | omega | with_reducible exact ints_get (by omega) | with_reducible apply And.intro | unfold inInt | with_reducible exact isInts_ints _ | with_reducible exact isInts_nil))) h
end Go.Aev.M33
end
/- M33LeastSu -/
section
namespace Go.Aev.M33
set_option maxRecDepth 1000000
set_option linter.unusedSimpArgs false
set_option linter.unusedVariables false
theorem Hu_start {out a : List Int} {cl : Int} {Q : V → Aev.Rows → Prop} (h4 : 4 ≤ out.length) (h : Ends c1 0 (Hu out .nil [] a 0) Q) : Ends c1 0 (Ho (SL 0 out) [RW out] a cl) Q :=
  Ends.turn c1_ok (gds [(12,false)]) (atLoop 2) 300 [0] [0, 5, 8, 9] (ps := [decide ((↑(List.length out) : Int) < (4 : Int)) = false]) (by kernel_rfl) (by
    (try simp only [AllP, Int.toNat_natCast, ints_len, decide_eq_true_eq, decide_eq_false_iff_not, beq_eq_false_iff_ne, beq_iff_eq, bne_iff_ne, bne_eq_false_iff_eq, Bool.not_eq_true', Bool.not_eq_false', Int.not_lt, Int.not_le, gt_iff_lt, ge_iff_le, ne_eq, and_true, true_and, List.drop_zero, ints_take, ints_drop, List.take_length, unI_ints, List.map_nil, List.length_nil, List.not_mem_nil])
    all_goals (repeat' (first | with_reducible assumption | with_reducible rfl | omega | with_reducible exact ints_get (by omega) | with_reducible apply And.intro | unfold inInt | with_reducible exact isInts_ints _ | with_reducible exact isInts_nil))) h
theorem Hu_n_no {out a : List Int} {k : Nat} {Q : V → Aev.Rows → Prop} (hk : k < a.length) (hb : a.length ≤ 1073741824) (hl : out.length ≤ 4) (hm : (k : Int) ∉ out) (h : Ends c1 0 (Hu out (.nil) [] a (k + 1)) Q) : Ends c1 0 (Hu out (.nil) [] a k) Q :=
  Ends.turn c1_ok (gds [(57,true),(62,false)]) (atLoop 2) 300 [0] [0, 5, 8, 9] (ps := [decide ((↑k : Int) < (↑(List.length (ints a)) : Int)) = true, nat_lit 1 = nat_lit 1 ∧ nat_lit 0 + List.length out ≤ List.length (ints out), isInts (List.take (List.length out) (List.drop (nat_lit 0) (ints out))), List.length (List.take (List.length out) (List.drop (nat_lit 0) (ints out))) ≤ nat_lit 4611686018427387904, decide ((↑k : Int) ∈ List.map unI (List.take (List.length out) (List.drop (nat_lit 0) (ints out)))) = false, inInt ((↑k : Int) + (1 : Int))]) (by kernel_rfl) (by
    (try simp only [AllP, Int.toNat_natCast, ints_len, decide_eq_true_eq, decide_eq_false_iff_not, beq_eq_false_iff_ne, beq_iff_eq, bne_iff_ne, bne_eq_false_iff_eq, Bool.not_eq_true', Bool.not_eq_false', Int.not_lt, Int.not_le, gt_iff_lt, ge_iff_le, ne_eq, and_true, true_and, List.drop_zero, ints_take, ints_drop, List.take_length, unI_ints, List.map_nil, List.length_nil, List.not_mem_nil])
    all_goals (repeat' (first | with_reducible assumption | with_reducible rfl | omega | with_reducible exact ints_get (by omega) | with_reducible apply And.intro | unfold inInt | with_reducible exact isInts_ints _ | with_reducible exact isInts_nil))) h
theorem Hu_n_yes {out a : List Int} {k : Nat} {Q : V → Aev.Rows → Prop} (hk : k < a.length) (hb : a.length ≤ 1073741824) (hl : out.length ≤ 4) (hm : (k : Int) ∈ out) (h : Ends c1 0 (Hu out (.sl 1 1 0 1 1 false) [.live (.dat 1 (ints [(k : Int)]) false)] a (k + 1)) Q) : Ends c1 0 (Hu out (.nil) [] a k) Q :=
  Ends.turn c1_ok (gds [(57,true),(62,true)] [] 1) (atLoop 2) 300 [0, 2] [0, 5, 8, 9] (ps := [decide ((↑k : Int) < (↑(List.length (ints a)) : Int)) = true, nat_lit 1 = nat_lit 1 ∧ nat_lit 0 + List.length out ≤ List.length (ints out), isInts (List.take (List.length out) (List.drop (nat_lit 0) (ints out))), List.length (List.take (List.length out) (List.drop (nat_lit 0) (ints out))) ≤ nat_lit 4611686018427387904, decide ((↑k : Int) ∈ List.map unI (List.take (List.length out) (List.drop (nat_lit 0) (ints out)))) = true, nat_lit 1 = nat_lit 1 ∧ nat_lit 1 = nat_lit 1 ∧ nat_lit 1 ≤ nat_lit 1, nat_lit 0 < nat_lit 1 ∧   nat_lit 1 ≠ nat_lit 0 ∧ nat_lit 16 ≤ nat_lit 281474976710656 ∧ nat_lit 1 ≤ nat_lit 4611686018427387904, inInt ((↑k : Int) + (1 : Int))]) (by kernel_rfl) (by
    (try simp only [AllP, Int.toNat_natCast, ints_len, decide_eq_true_eq, decide_eq_false_iff_not, beq_eq_false_iff_ne, beq_iff_eq, bne_iff_ne, bne_eq_false_iff_eq, Bool.not_eq_true', Bool.not_eq_false', Int.not_lt, Int.not_le, gt_iff_lt, ge_iff_le, ne_eq, and_true, true_and, List.drop_zero, ints_take, ints_drop, List.take_length, unI_ints, List.map_nil, List.length_nil, List.not_mem_nil])
    all_goals (repeat' (first | with_reducible assumption | with_reducible rfl | omega | with_reducible exact ints_get (by omega) | with_reducible apply And.intro | unfold inInt | with_reducible exact isInts_ints _ | with_reducible exact isInts_nil))) h
theorem Hu_n_end {out a : List Int} {k : Nat} {Q : V → Aev.Rows → Prop} (hk : a.length ≤ k) (h : Q (.nil) (RW out :: [])) : Ends c1 0 (Hu out (.nil) [] a k) Q :=
  Ends.fin c1_ok (gds [(57,false)]) 300 (ps := [decide ((↑k : Int) < (↑(List.length (ints a)) : Int)) = false]) (by kernel_rfl) (by
    (try simp only [AllP, Int.toNat_natCast, ints_len, decide_eq_true_eq, decide_eq_false_iff_not, beq_eq_false_iff_ne, beq_iff_eq, bne_iff_ne, bne_eq_false_iff_eq, Bool.not_eq_true', Bool.not_eq_false', Int.not_lt, Int.not_le, gt_iff_lt, ge_iff_le, ne_eq, and_true, true_and, List.drop_zero, ints_take, ints_drop, List.take_length, unI_ints, List.map_nil, List.length_nil, List.not_mem_nil])
    all_goals (repeat' (first | with_reducible assumption | with_reducible rfl | omega | with_reducible exact ints_get (by omega) | with_reducible apply And.intro | unfold inInt | with_reducible exact isInts_ints _ | with_reducible exact isInts_nil))) h
theorem Hu_s_no {up : List Int} {out a : List Int} {k : Nat} {Q : V → Aev.Rows → Prop} (hk : k < a.length) (hb : a.length ≤ 1073741824) (hl : out.length ≤ 4) (hm : (k : Int) ∉ out) (h : Ends c1 0 (Hu out (SL 1 up) [RW up] a (k + 1)) Q) : Ends c1 0 (Hu out (SL 1 up) [RW up] a k) Q :=
  Ends.turn c1_ok (gds [(57,true),(62,false)]) (atLoop 2) 300 [0, 1] [0, 5, 8, 9] (ps := [decide ((↑k : Int) < (↑(List.length (ints a)) : Int)) = true, nat_lit 1 = nat_lit 1 ∧ nat_lit 0 + List.length out ≤ List.length (ints out), isInts (List.take (List.length out) (List.drop (nat_lit 0) (ints out))), List.length (List.take (List.length out) (List.drop (nat_lit 0) (ints out))) ≤ nat_lit 4611686018427387904, decide ((↑k : Int) ∈ List.map unI (List.take (List.length out) (List.drop (nat_lit 0) (ints out)))) = false, inInt ((↑k : Int) + (1 : Int))]) (by kernel_rfl) (by
    (try simp only [AllP, Int.toNat_natCast, ints_len, decide_eq_true_eq, decide_eq_false_iff_not, beq_eq_false_iff_ne, beq_iff_eq, bne_iff_ne, bne_eq_false_iff_eq, Bool.not_eq_true', Bool.not_eq_false', Int.not_lt, Int.not_le, gt_iff_lt, ge_iff_le, ne_eq, and_true, true_and, List.drop_zero, ints_take, ints_drop, List.take_length, unI_ints, List.map_nil, List.length_nil, List.not_mem_nil])
    all_goals (repeat' (first | with_reducible assumption | with_reducible rfl | omega | with_reducible exact ints_get (by omega) | with_reducible apply And.intro | unfold inInt | with_reducible exact isInts_ints _ | with_reducible exact isInts_nil))) h
theorem Hu_s_yes {up : List Int} {out a : List Int} {k : Nat} {Q : V → Aev.Rows → Prop} (hk : k < a.length) (hb : a.length ≤ 1073741824) (hl : out.length ≤ 4) (hm : (k : Int) ∈ out) (h1 : 0 < up.length) (h2 : up.length ≤ 1073741824) (h : Ends c1 0 (Hu out (.sl 1 1 0 (up.length + 1) (up.length + 1) false) [.live (.dat 1 (((ints up).drop 0).take up.length ++ ints [(k : Int)]) false)] a (k + 1)) Q) : Ends c1 0 (Hu out (SL 1 up) [RW up] a k) Q :=
  Ends.turn c1_ok (gds [(57,true),(62,true)] [] 1) (atLoop 2) 300 [0, 3] [0, 5, 8, 9] (ps := [decide ((↑k : Int) < (↑(List.length (ints a)) : Int)) = true, nat_lit 1 = nat_lit 1 ∧ nat_lit 0 + List.length out ≤ List.length (ints out), isInts (List.take (List.length out) (List.drop (nat_lit 0) (ints out))), List.length (List.take (List.length out) (List.drop (nat_lit 0) (ints out))) ≤ nat_lit 4611686018427387904, decide ((↑k : Int) ∈ List.map unI (List.take (List.length out) (List.drop (nat_lit 0) (ints out)))) = true, nat_lit 1 = nat_lit 1 ∧ nat_lit 1 = nat_lit 1 ∧ nat_lit 1 ≤ nat_lit 1, nat_lit 0 < nat_lit 1 ∧   nat_lit 1 ≠ nat_lit 0 ∧     nat_lit 1 = nat_lit 1 ∧       nat_lit 1 = nat_lit 1 ∧         nat_lit 0 + List.length up ≤ List.length (ints up) ∧           ¬List.length up + nat_lit 1 ≤ List.length up ∧             nat_lit 2 * (List.length up + nat_lit 1) * nat_lit 8 ≤ nat_lit 281474976710656 ∧               List.length up + nat_lit 1 ≤ nat_lit 4611686018427387904, inInt ((↑k : Int) + (1 : Int))]) (by kernel_rfl) (by
    (try simp only [AllP, Int.toNat_natCast, ints_len, decide_eq_true_eq, decide_eq_false_iff_not, beq_eq_false_iff_ne, beq_iff_eq, bne_iff_ne, bne_eq_false_iff_eq, Bool.not_eq_true', Bool.not_eq_false', Int.not_lt, Int.not_le, gt_iff_lt, ge_iff_le, ne_eq, and_true, true_and, List.drop_zero, ints_take, ints_drop, List.take_length, unI_ints, List.map_nil, List.length_nil, List.not_mem_nil])
    all_goals (repeat' (first | with_reducible assumption | with_reducible rfl | omega | with_reducible exact ints_get (by omega) | with_reducible apply And.intro | unfold inInt | with_reducible exact isInts_ints _ | with_reducible exact isInts_nil))) h
theorem Hu_s_end {up : List Int} {out a : List Int} {k : Nat} {Q : V → Aev.Rows → Prop} (hk : a.length ≤ k) (h : Q (SL 1 up) (RW out :: [RW up])) : Ends c1 0 (Hu out (SL 1 up) [RW up] a k) Q :=
  Ends.fin c1_ok (gds [(57,false)]) 300 (ps := [decide ((↑k : Int) < (↑(List.length (ints a)) : Int)) = false]) (by kernel_rfl) (by
    (try simp only [AllP, Int.toNat_natCast, ints_len, decide_eq_true_eq, decide_eq_false_iff_not, beq_eq_false_iff_ne, beq_iff_eq, bne_iff_ne, bne_eq_false_iff_eq, Bool.not_eq_true', Bool.not_eq_false', Int.not_lt, Int.not_le, gt_iff_lt, ge_iff_le, ne_eq, and_true, true_and, List.drop_zero, ints_take, ints_drop, List.take_length, unI_ints, List.map_nil, List.length_nil, List.not_mem_nil])
    all_goals (repeat' (first | with_reducible assumption | with_reducible rfl | omega | with_reducible exact ints_get (by omega) | with_reducible apply And.intro | unfold inInt | with_reducible exact isInts_ints _ | with_reducible exact isInts_nil))) h
end Go.Aev.M33
end
/- M33Least -/
section
namespace Go.Aev.M33
set_option maxRecDepth 1000000
set_option linter.unusedVariables false

/-- a place that is better than the best so far -/
def better (a : List Int) (cl : Int) (out : List Int) (b : Int) (k : Nat) : Bool :=
  decide (cls (a.getD k 0) = cl) && !decide ((k : Int) ∈ out) && (decide (b < 0) || decide (a.getD k 0 < a.getD b.toNat 0))
def bestTo (a : List Int) (cl : Int) (out : List Int) : Nat → Int
  | 0 => -1
  | k + 1 => if better a cl out (bestTo a cl out k) k then k else bestTo a cl out k
abbrev best (a : List Int) (cl : Int) (out : List Int) : Int := bestTo a cl out a.length

theorem bestTo_bd (a : List Int) (cl : Int) (out : List Int) : ∀ k, -1 ≤ bestTo a cl out k ∧ bestTo a cl out k < k
  | 0 => by simp [bestTo]
  | k + 1 => by
    have := bestTo_bd a cl out k
    simp only [bestTo]
    split <;> omega

variable {a : List Int} {cl : Int} {Q : V → Aev.Rows → Prop}

theorem ha_get (ha : ∀ x ∈ a, 1 ≤ x ∧ x ≤ 4096) {k : Nat} (hk : k < a.length) : 1 ≤ a.getD k 0 ∧ a.getD k 0 ≤ 4096 := by
  have : a.getD k 0 = a[k] := by simp [hk]
  rw [this]; exact ha _ (List.getElem_mem _)

theorem inner_n (hb : a.length ≤ 1073741824) (ha : ∀ x ∈ a, 1 ≤ x ∧ x ≤ 4096) : ∀ (n k : Nat), a.length - k = n → k ≤ a.length →
    Ends c1 0 (Hi .nil [] a cl (best a cl []) a.length) Q → Ends c1 0 (Hi .nil [] a cl (bestTo a cl [] k) k) Q := by
  intro n
  induction n with
  | zero => intro k h1 h2 h; have : k = a.length := by omega
            subst this; exact h
  | succ n ih =>
    intro k h1 h2 h
    have hk : k < a.length := by omega
    have h3 := ih (k + 1) (by omega) (by omega) h
    have h9 := (ha_get ha hk).2
    have hbd := bestTo_bd a cl [] k
    have e : bestTo a cl [] (k + 1) = if better a cl [] (bestTo a cl [] k) k then (k : Int) else bestTo a cl [] k := rfl
    rw [e] at h3
    generalize bestTo a cl [] k = b at h3 hbd ⊢
    by_cases hc : cls (a.getD k 0) = cl
    · by_cases h0 : b < 0
      · have : better a cl [] b k = true := by unfold better; rw [decide_eq_true hc, decide_eq_true h0]; simp
        rw [this] at h3
        exact Hi_n_first hk hb h9 hc h0 h3
      · by_cases hl : a.getD k 0 < a.getD b.toNat 0
        · have : better a cl [] b k = true := by unfold better; rw [decide_eq_true hc, decide_eq_true hl]; simp
          rw [this] at h3
          exact Hi_n_less hk hb h9 hc (by omega) (by omega) hl h3
        · have : better a cl [] b k = false := by unfold better; rw [decide_eq_false h0, decide_eq_false hl]; simp
          rw [this] at h3
          exact Hi_n_more hk hb h9 hc (by omega) (by omega) (by omega) h3
    · have : better a cl [] b k = false := by unfold better; rw [decide_eq_false hc]; simp
      rw [this] at h3
      exact Hi_n_class hk hb h9 hc h3

theorem inner_s {out : List Int} (hlo : out.length ≤ 4) (hb : a.length ≤ 1073741824) (ha : ∀ x ∈ a, 1 ≤ x ∧ x ≤ 4096) : ∀ (n k : Nat), a.length - k = n → k ≤ a.length →
    Ends c1 0 (Hi (SL 0 out) [RW out] a cl (best a cl out) a.length) Q → Ends c1 0 (Hi (SL 0 out) [RW out] a cl (bestTo a cl out k) k) Q := by
  intro n
  induction n with
  | zero => intro k h1 h2 h; have : k = a.length := by omega
            subst this; exact h
  | succ n ih =>
    intro k h1 h2 h
    have hk : k < a.length := by omega
    have h3 := ih (k + 1) (by omega) (by omega) h
    have h9 := (ha_get ha hk).2
    have hbd := bestTo_bd a cl out k
    have e : bestTo a cl out (k + 1) = if better a cl out (bestTo a cl out k) k then (k : Int) else bestTo a cl out k := rfl
    rw [e] at h3
    generalize bestTo a cl out k = b at h3 hbd ⊢
    by_cases hc : cls (a.getD k 0) = cl
    · by_cases hm : (k : Int) ∈ out
      · have : better a cl out b k = false := by unfold better; rw [decide_eq_true hm]; simp
        rw [this] at h3
        exact Hi_s_has hk hb h9 hlo hc hm h3
      · by_cases h0 : b < 0
        · have : better a cl out b k = true := by unfold better; rw [decide_eq_true hc, decide_eq_true h0, decide_eq_false hm]; simp
          rw [this] at h3
          exact Hi_s_first hk hb h9 hlo hc hm h0 h3
        · by_cases hl : a.getD k 0 < a.getD b.toNat 0
          · have : better a cl out b k = true := by unfold better; rw [decide_eq_true hc, decide_eq_true hl, decide_eq_false hm]; simp
            rw [this] at h3
            exact Hi_s_less hk hb h9 hlo hc hm (by omega) (by omega) hl h3
          · have : better a cl out b k = false := by unfold better; rw [decide_eq_false h0, decide_eq_false hl]; simp
            rw [this] at h3
            exact Hi_s_more hk hb h9 hlo hc hm (by omega) (by omega) (by omega) h3
    · have : better a cl out b k = false := by unfold better; rw [decide_eq_false hc]; simp
      rw [this] at h3
      exact Hi_s_class hk hb h9 hc h3

/-- the four least places of a class, as they are found -/
def leastS (a : List Int) (cl : Int) : Option (List Int) :=
  if best a cl [] < 0 then none else
  if best a cl [best a cl []] < 0 then none else
  if best a cl [best a cl [], best a cl [best a cl []]] < 0 then none else
  if best a cl [best a cl [], best a cl [best a cl []], best a cl [best a cl [], best a cl [best a cl []]]] < 0 then none else
  some [best a cl [], best a cl [best a cl []], best a cl [best a cl [], best a cl [best a cl []]], best a cl [best a cl [], best a cl [best a cl []], best a cl [best a cl [], best a cl [best a cl []]]]]

/-- the places below k that are listed -/
def upTo (out : List Int) (k : Nat) : List Int := ((List.range k).map fun (i : Nat) => (i : Int)).filter fun i => decide (i ∈ out)
theorem upTo_succ (out : List Int) (k : Nat) : upTo out (k + 1) = if (k : Int) ∈ out then upTo out k ++ [(k : Int)] else upTo out k := by
  unfold upTo
  rw [List.range_succ, List.map_append, List.filter_append]
  by_cases h : (k : Int) ∈ out <;> simp [h]
theorem upTo_len (out : List Int) (k : Nat) : (upTo out k).length ≤ k := by
  unfold upTo
  have := List.length_filter_le (fun i => decide (i ∈ out)) ((List.range k).map fun (i : Nat) => (i : Int))
  simpa using this

/-- a list as a slice: nil if it is empty -/
def vOf (l : List Int) : V := if l = [] then .nil else L l
def leastV (a : List Int) (cl : Int) : V := match leastS a cl with
  | none => .nil
  | some out => vOf (upTo out a.length)

theorem conv_sl {l : List Int} {r : Nat} {rows : Aev.Rows} {ro : Bool} (h : liveAt rows r = some (.dat 1 (ints l) ro)) : convV (liveAt rows) (.sl r 1 0 l.length l.length false) = some (L l) := by
  have : toD1 (liveAt rows) (.sl r 1 0 l.length l.length false) = some (.list (ints l), [(r, .live (.dat 1 (ints l) true))]) := by
    simp only [toD1, h]
    rw [if_pos ⟨trivial, by rw [ints_len]; omega⟩, List.drop_zero, ints_take, List.take_length]
  simp only [convV, conv1, conv0, this]

theorem up_ends {out : List Int} (hlo : out.length ≤ 4) (hb : a.length ≤ 1073741824) : ∀ (n k : Nat), a.length - k = n → k ≤ a.length →
    Ends c1 0 (if upTo out k = [] then Hu out .nil [] a k else Hu out (SL 1 (upTo out k)) [RW (upTo out k)] a k) (fun v rows => convV (liveAt rows) v = some (vOf (upTo out a.length))) := by
  intro n
  induction n with
  | zero =>
    intro k h1 h2
    have : k = a.length := by omega
    subst this
    by_cases he : upTo out a.length = []
    · rw [if_pos he]
      refine Hu_n_end (Nat.le_refl _) ?_
      rw [he]; rfl
    · rw [if_neg he]
      refine Hu_s_end (Nat.le_refl _) ?_
      unfold vOf
      rw [if_neg he]
      exact conv_sl (ro := false) rfl
  | succ n ih =>
    intro k h1 h2
    have hk : k < a.length := by omega
    have h3 := ih (k + 1) (by omega) (by omega)
    rw [upTo_succ] at h3
    have hlen := upTo_len out k
    generalize upTo out k = up at h3 hlen ⊢
    by_cases hm : (k : Int) ∈ out
    · rw [if_pos hm, if_neg (by simp)] at h3
      by_cases he : up = []
      · subst he
        rw [if_pos rfl]
        exact Hu_n_yes hk hb hlo hm h3
      · rw [if_neg he]
        have hpos : 0 < up.length := by cases up with | nil => exact absurd rfl he | cons => simp
        refine Hu_s_yes hk hb hlo hm hpos (by omega) ?_
        have e1 : (((ints up).drop 0).take up.length ++ ints [(k : Int)]) = ints (up ++ [(k : Int)]) := by
          rw [List.drop_zero, ints_take, List.take_length, ints_append]
        have e2 : (up ++ [(k : Int)]).length = up.length + 1 := by simp
        rw [e1]
        have := h3
        unfold SL at this
        rw [e2] at this
        exact this
    · rw [if_neg hm] at h3
      by_cases he : up = []
      · subst he
        rw [if_pos rfl] at h3 ⊢
        exact Hu_n_no hk hb hlo hm h3
      · rw [if_neg he] at h3 ⊢
        exact Hu_s_no hk hb hlo hm h3

/-- a round of the outer loop -/
theorem outer_s {out : List Int} {Q : V → Aev.Rows → Prop} (h0 : 0 < out.length) (hlo : out.length < 4) (hb : a.length ≤ 1073741824) (ha : ∀ x ∈ a, 1 ≤ x ∧ x ≤ 4096) (hn : best a cl out < 0 → Q .nil [RW out])
    (hy : 0 ≤ best a cl out → Ends c1 0 (Ho (SL 0 (out ++ [best a cl out])) [RW (out ++ [best a cl out])] a cl) Q) : Ends c1 0 (Ho (SL 0 out) [RW out] a cl) Q := by
  refine Hi_s_start hlo ?_
  refine inner_s (by omega) hb ha _ 0 rfl (Nat.zero_le _) ?_
  by_cases hneg : best a cl out < 0
  · exact Hi_s_none (Nat.le_refl _) hneg (hn hneg)
  · refine Hi_s_app (Nat.le_refl _) (by omega) h0 hlo ?_
    have h := hy (by omega)
    have e1 : (((ints out).drop 0).take out.length ++ ints [best a cl out]) = ints (out ++ [best a cl out]) := by
      rw [List.drop_zero, ints_take, List.take_length, ints_append]
    have e2 : (out ++ [best a cl out]).length = out.length + 1 := by simp
    rw [e1]
    unfold SL at h
    rw [e2] at h
    exact h

theorem least_rcs (hb : a.length ≤ 1073741824) (ha : ∀ x ∈ a, 1 ≤ x ∧ x ≤ 4096) : RCs PP 29 [L a, I cl] [] (leastV a cl) := by
  refine rcs_of c1_ok (by kernel_rfl) ?_
  refine Ends.turn c1_ok (gds []) (atLoop 2) 300 [] [0, 1, 5] (ps := []) (s' := Ho .nil [] a cl) (by kernel_rfl) trivial ?_
  refine Hi_n_start ?_
  refine inner_n hb ha _ 0 rfl (Nat.zero_le _) ?_
  unfold leastV leastS
  by_cases n0 : best a cl [] < 0
  · rw [if_pos n0]
    exact Hi_n_none (Nat.le_refl _) n0 rfl
  · rw [if_neg n0]
    refine Hi_n_app (Nat.le_refl _) (by omega) ?_
    show Ends c1 0 (Ho (SL 0 [best a cl []]) [RW [best a cl []]] a cl) _
    refine outer_s (by simp) (by simp) hb ha (fun h => ?_) (fun h1 => ?_)
    · rw [if_pos h]; rfl
    · rw [if_neg (by omega)]
      refine outer_s (by simp) (by simp) hb ha (fun h => ?_) (fun h2 => ?_)
      · have h' : best a cl [best a cl [], best a cl [best a cl []]] < 0 := h
        rw [if_pos h']; rfl
      · have h2' : ¬ best a cl [best a cl [], best a cl [best a cl []]] < 0 := Int.not_lt.2 h2
        rw [if_neg h2']
        refine outer_s (by simp) (by simp) hb ha (fun h => ?_) (fun h3 => ?_)
        · have h' : best a cl [best a cl [], best a cl [best a cl []], best a cl [best a cl [], best a cl [best a cl []]]] < 0 := h
          rw [if_pos h']; rfl
        · have h3' : ¬ best a cl [best a cl [], best a cl [best a cl []], best a cl [best a cl [], best a cl [best a cl []]]] < 0 := Int.not_lt.2 h3
          rw [if_neg h3']
          refine Hu_start (by simp) ?_
          have := up_ends (a := a) (out := [best a cl [], best a cl [best a cl []], best a cl [best a cl [], best a cl [best a cl []]], best a cl [best a cl [], best a cl [best a cl []], best a cl [best a cl [], best a cl [best a cl []]]]]) (by simp) hb _ 0 rfl (Nat.zero_le _)
          exact this

end Go.Aev.M33
end
/- M33PickDefs -/
section
namespace Go.Aev.M33
set_option maxRecDepth 1000000
set_option linter.unusedVariables false

/-- least as a list -/
def leastL (a : List Int) (cl : Int) : List Int := match leastS a cl with
  | none => []
  | some out => upTo out a.length
theorem leastV_eq (a : List Int) (cl : Int) : leastV a cl = vOf (leastL a cl) := by
  unfold leastV leastL
  cases leastS a cl <;> rfl
theorem upTo_mem {out : List Int} {k : Nat} {i : Int} (h : i ∈ upTo out k) : 0 ≤ i ∧ i < k := by
  unfold upTo at h
  rw [List.mem_filter, List.mem_map] at h
  obtain ⟨⟨j, hj, rfl⟩, _⟩ := h
  rw [List.mem_range] at hj
  omega
theorem leastL_mem {a : List Int} {cl i : Int} (h : i ∈ leastL a cl) : 0 ≤ i ∧ i < a.length := by
  unfold leastL at h
  split at h
  · simp at h
  · exact upTo_mem h
theorem leastL_len (a : List Int) (cl : Int) : (leastL a cl).length ≤ a.length := by
  unfold leastL
  split
  · simp
  · exact upTo_len _ _

/-- with what least answers here -/
def tab2 (r : V) (g : FuncId) (args : List V) (rows : Aev.Rows) : Option (List Prop × V) :=
  match g, args with
  | 29, [v, .d (.int .i64 c)] => match listOf rows v with
    | some (ps, es) => some (ps ++ [isInts es, es.length ≤ 1073741824, ∀ x ∈ es.map unI, 1 ≤ x ∧ x ≤ 4096, leastV (es.map unI) c = r], r)
    | none => none
  | _, _ => tab1 g args rows

theorem tab2_ok {r : V} {g : FuncId} {args : List V} {rows : Aev.Rows} {ps : List Prop} {v : V} (h : tab2 r g args rows = some (ps, v)) (hp : AllP ps) : RCs PP g args rows v := by
  unfold tab2 at h
  split at h
  · split at h
    · rename_i qs es hl
      cases h
      obtain ⟨h1, h2, h3, h4, h5, _⟩ := AllP_append hp
      have := least_rcs (a := es.map unI) (cl := ‹Int›) (by rw [map_len]; exact h3) h4
      rw [h5] at this
      refine this.of_lists (.cons ?_ (.cons (.data _) .nil))
      have e : L (es.map unI) = .d (.list es) := by unfold isInts at h2; rw [L, ← h2]
      rw [e]; exact .list hl h1
    · cases h
  · exact tab1_ok h hp
noncomputable def c2 (r : V) : SCfg := mk (fun _ => true) (tab2 r)
theorem c2_ok (r : V) : COK (c2 r).cfg := mk_ok (fun g args rows ps v h hp => tab2_ok h hp)

theorem Ends.cfg {c c' : SCfg} (h : c.P = c'.P) {k : Nat} {s : AS} {Q : V → Aev.Rows → Prop} (e : Ends c k s Q) : Ends c' k s Q := by
  unfold Ends at e ⊢
  rw [← h]
  exact e

noncomputable def td14 : List AItem := (nextOf (sTo c1 {} (atLoop 2) 300 (start c1 14 [L []] []))).fr.todo
noncomputable def H14 (a : List Int) (c : Int) : AS := hd 14 td14 22 [(0, L a), (3, I c)] []
end Go.Aev.M33
end
/- M33PickSteps -/
section
namespace Go.Aev.M33
set_option maxRecDepth 1000000
set_option linter.unusedSimpArgs false
set_option linter.unusedVariables false
theorem H14_go {a : List Int} {Q : V → Aev.Rows → Prop}  (h : Ends c0 0 (H14 a 0) Q) : Ends c0 0 (start c1 14 [L a] []) Q :=
  Ends.cfg rfl (Ends.turn (c := c1) c1_ok (gds []) (atLoop 2) 300 [] [0, 3] (ps := []) (by kernel_rfl) (by
    (try simp only [AllP, Int.toNat_natCast, ints_len, decide_eq_true_eq, decide_eq_false_iff_not, beq_eq_false_iff_ne, beq_iff_eq, bne_iff_ne, bne_eq_false_iff_eq, Bool.not_eq_true', Bool.not_eq_false', Int.not_lt, Int.not_le, gt_iff_lt, ge_iff_le, ne_eq, and_true, true_and, List.drop_zero, ints_take, ints_drop, List.take_length, unI_ints, List.map_nil, List.length_nil, List.not_mem_nil])
    all_goals (repeat' (first | with_reducible assumption | with_reducible rfl | omega | with_reducible exact ints_get (by omega) | with_reducible apply And.intro | unfold inInt | with_reducible exact isInts_ints _ | with_reducible exact isInts_nil))) (Ends.cfg rfl h))
theorem H14_end {a : List Int} {c : Int} {Q : V → Aev.Rows → Prop} (hc : 4 < c) (h : Q (.nil) ([])) : Ends c0 0 (H14 a c) Q :=
  Ends.cfg rfl (Ends.fin (c := c1) c1_ok (gds [(6,false)]) 300 (ps := [decide (c ≤ (4 : Int)) = false]) (by kernel_rfl) (by
    (try simp only [AllP, Int.toNat_natCast, ints_len, decide_eq_true_eq, decide_eq_false_iff_not, beq_eq_false_iff_ne, beq_iff_eq, bne_iff_ne, bne_eq_false_iff_eq, Bool.not_eq_true', Bool.not_eq_false', Int.not_lt, Int.not_le, gt_iff_lt, ge_iff_le, ne_eq, and_true, true_and, List.drop_zero, ints_take, ints_drop, List.take_length, unI_ints, List.map_nil, List.length_nil, List.not_mem_nil])
    all_goals (repeat' (first | with_reducible assumption | with_reducible rfl | omega | with_reducible exact ints_get (by omega) | with_reducible apply And.intro | unfold inInt | with_reducible exact isInts_ints _ | with_reducible exact isInts_nil))) h)
theorem H14_nil {a : List Int} {c : Int} {Q : V → Aev.Rows → Prop} (hc : c ≤ 4) (hc0 : 0 ≤ c) (hb : a.length ≤ 1073741824) (ha : ∀ x ∈ a, 1 ≤ x ∧ x ≤ 4096) (hl : leastV a c = .nil) (h : Ends c0 0 (H14 a (c + 1)) Q) : Ends c0 0 (H14 a c) Q :=
  Ends.cfg rfl (Ends.turn (c := (c2 .nil)) (c2_ok .nil) (gds [(6,true)]) (atLoop 2) 300 [] [0, 3] (ps := [decide (c ≤ (4 : Int)) = true, isInts (ints a), List.length (ints a) ≤ nat_lit 1073741824, ∀ (x : Int), x ∈ List.map unI (ints a) → (1 : Int) ≤ x ∧ x ≤ (4096 : Int), leastV (List.map unI (ints a)) c = V.nil, inInt (c + (1 : Int))]) (by kernel_rfl) (by
    (try simp only [AllP, Int.toNat_natCast, ints_len, decide_eq_true_eq, decide_eq_false_iff_not, beq_eq_false_iff_ne, beq_iff_eq, bne_iff_ne, bne_eq_false_iff_eq, Bool.not_eq_true', Bool.not_eq_false', Int.not_lt, Int.not_le, gt_iff_lt, ge_iff_le, ne_eq, and_true, true_and, List.drop_zero, ints_take, ints_drop, List.take_length, unI_ints, List.map_nil, List.length_nil, List.not_mem_nil])
    all_goals (repeat' (first | with_reducible assumption | with_reducible rfl | omega | with_reducible exact ints_get (by omega) | with_reducible apply And.intro | unfold inInt | with_reducible exact isInts_ints _ | with_reducible exact isInts_nil))) (Ends.cfg rfl h))
theorem H14_great {a l : List Int} {c : Int} {Q : V → Aev.Rows → Prop} (hc : c ≤ 4) (hc0 : 0 ≤ c) (hb : a.length ≤ 1073741824) (ha : ∀ x ∈ a, 1 ≤ x ∧ x ≤ 4096) (hl : leastV a c = L l) (h0 : 0 < l.length) (hi : ∀ i ∈ l, 0 ≤ i ∧ i < (a.length : Int)) (hll : l.length ≤ 1073741824) (ha0 : ∀ x ∈ a, 0 ≤ x ∧ x ≤ 4096) (hs : 4096 < sumAt a l) (h : Ends c0 0 (H14 a (c + 1)) Q) : Ends c0 0 (H14 a c) Q :=
  Ends.cfg rfl (Ends.turn (c := (c2 (L l))) (c2_ok (L l)) (gds [(6,true),(15,true),(20,false)]) (atLoop 2) 300 [] [0, 3] (ps := [decide (c ≤ (4 : Int)) = true, isInts (ints a), List.length (ints a) ≤ nat_lit 1073741824, ∀ (x : Int), x ∈ List.map unI (ints a) → (1 : Int) ≤ x ∧ x ≤ (4096 : Int), leastV (List.map unI (ints a)) c = L l, decide ((↑(List.length (ints l)) : Int) > (0 : Int)) = true, decide ((↑(List.length (ints l)) : Int) > (0 : Int)) = true, decide ((↑(List.length (ints l)) : Int) > (0 : Int)) = true, isInts (ints a), isInts (ints l), List.length (ints l) ≤ nat_lit 1073741824, ∀ (i : Int), i ∈ List.map unI (ints l) → (0 : Int) ≤ i ∧ i < (↑(List.length (List.map unI (ints a))) : Int), ∀ (x : Int), x ∈ List.map unI (ints a) → (0 : Int) ≤ x ∧ x ≤ (4096 : Int), decide ((↑(List.length (ints l)) : Int) > (0 : Int)) = true, decide ((↑(List.length (ints l)) : Int) > (0 : Int)) = true, decide (sumAt (List.map unI (ints a)) (List.map unI (ints l)) ≤ (4096 : Int)) = false, inInt (c + (1 : Int))]) (by kernel_rfl) (by
    (try simp only [AllP, Int.toNat_natCast, ints_len, decide_eq_true_eq, decide_eq_false_iff_not, beq_eq_false_iff_ne, beq_iff_eq, bne_iff_ne, bne_eq_false_iff_eq, Bool.not_eq_true', Bool.not_eq_false', Int.not_lt, Int.not_le, gt_iff_lt, ge_iff_le, ne_eq, and_true, true_and, List.drop_zero, ints_take, ints_drop, List.take_length, unI_ints, List.map_nil, List.length_nil, List.not_mem_nil])
    all_goals (repeat' (first | with_reducible assumption | with_reducible rfl | omega | with_reducible exact ints_get (by omega) | with_reducible apply And.intro | unfold inInt | with_reducible exact isInts_ints _ | with_reducible exact isInts_nil))) (Ends.cfg rfl h))
theorem H14_yes {a l : List Int} {c : Int} {Q : V → Aev.Rows → Prop} (hc : c ≤ 4) (hc0 : 0 ≤ c) (hb : a.length ≤ 1073741824) (ha : ∀ x ∈ a, 1 ≤ x ∧ x ≤ 4096) (hl : leastV a c = L l) (h0 : 0 < l.length) (hi : ∀ i ∈ l, 0 ≤ i ∧ i < (a.length : Int)) (hll : l.length ≤ 1073741824) (ha0 : ∀ x ∈ a, 0 ≤ x ∧ x ≤ 4096) (hs : sumAt a l ≤ 4096) (h : Q (L l) ([])) : Ends c0 0 (H14 a c) Q :=
  Ends.cfg rfl (Ends.fin (c := (c2 (L l))) (c2_ok (L l)) (gds [(6,true),(15,true),(20,true)]) 300 (ps := [decide (c ≤ (4 : Int)) = true, isInts (ints a), List.length (ints a) ≤ nat_lit 1073741824, ∀ (x : Int), x ∈ List.map unI (ints a) → (1 : Int) ≤ x ∧ x ≤ (4096 : Int), leastV (List.map unI (ints a)) c = L l, decide ((↑(List.length (ints l)) : Int) > (0 : Int)) = true, decide ((↑(List.length (ints l)) : Int) > (0 : Int)) = true, decide ((↑(List.length (ints l)) : Int) > (0 : Int)) = true, isInts (ints a), isInts (ints l), List.length (ints l) ≤ nat_lit 1073741824, ∀ (i : Int), i ∈ List.map unI (ints l) → (0 : Int) ≤ i ∧ i < (↑(List.length (List.map unI (ints a))) : Int), ∀ (x : Int), x ∈ List.map unI (ints a) → (0 : Int) ≤ x ∧ x ≤ (4096 : Int), decide ((↑(List.length (ints l)) : Int) > (0 : Int)) = true, decide ((↑(List.length (ints l)) : Int) > (0 : Int)) = true, decide (sumAt (List.map unI (ints a)) (List.map unI (ints l)) ≤ (4096 : Int)) = true]) (by kernel_rfl) (by
    (try simp only [AllP, Int.toNat_natCast, ints_len, decide_eq_true_eq, decide_eq_false_iff_not, beq_eq_false_iff_ne, beq_iff_eq, bne_iff_ne, bne_eq_false_iff_eq, Bool.not_eq_true', Bool.not_eq_false', Int.not_lt, Int.not_le, gt_iff_lt, ge_iff_le, ne_eq, and_true, true_and, List.drop_zero, ints_take, ints_drop, List.take_length, unI_ints, List.map_nil, List.length_nil, List.not_mem_nil])
    all_goals (repeat' (first | with_reducible assumption | with_reducible rfl | omega | with_reducible exact ints_get (by omega) | with_reducible apply And.intro | unfold inInt | with_reducible exact isInts_ints _ | with_reducible exact isInts_nil))) h)
end Go.Aev.M33
end
/- M33RefPick -/
section
namespace Go.Aev.M33
set_option maxRecDepth 1000000
/-- from a class on -/
def pickC (a : List Int) : Nat → Nat → List Int
  | 0, _ => []
  | n + 1, c => if leastL a c ≠ [] ∧ sumAt a (leastL a c) ≤ 4096 then leastL a c else pickC a n (c + 1)
/-- what the specification picks -/
def refPick (a : List Int) : List Int := pickC a 5 0

theorem pick_ends {a : List Int} (hb : a.length ≤ 1073741824) (ha : ∀ x ∈ a, 1 ≤ x ∧ x ≤ 4096) : ∀ (n c : Nat), c + n = 5 → Ends c0 0 (H14 a c) (fun v rows => convV (liveAt rows) v = some (vOf (pickC a n c))) := by
  intro n
  induction n with
  | zero =>
    intro c hc
    exact H14_end (by omega) rfl
  | succ n ih =>
    intro c hc
    have h3 := ih (c + 1) (by omega)
    have h3' : Ends c0 0 (H14 a ((c : Int) + 1)) (fun v rows => convV (liveAt rows) v = some (vOf (pickC a n (c + 1)))) := h3
    have hv := leastV_eq a c
    by_cases hl : leastL a c = []
    · have e : pickC a (n + 1) c = pickC a n (c + 1) := by simp [pickC, hl]
      rw [e]
      rw [hl] at hv
      exact H14_nil (by omega) (by omega) hb ha hv h3'
    · have hv' : leastV a c = L (leastL a c) := by rw [hv, vOf, if_neg hl]
      have hpos : 0 < (leastL a c).length := by
        cases h : leastL a c with
        | nil => exact absurd h hl
        | cons => simp
      have hlen := leastL_len a c
      by_cases hs : sumAt a (leastL a c) ≤ 4096
      · have e : pickC a (n + 1) c = leastL a c := by simp [pickC, hl, hs]
        rw [e]
        refine H14_yes (by omega) (by omega) hb ha hv' hpos (fun i hi => leastL_mem hi) (by omega) (fun x hx => ⟨by have := ha x hx; omega, (ha x hx).2⟩) hs ?_
        rw [vOf, if_neg hl]; rfl
      · have e : pickC a (n + 1) c = pickC a n (c + 1) := by simp [pickC, hs]
        rw [e]
        exact H14_great (by omega) (by omega) hb ha hv' hpos (fun i hi => leastL_mem hi) (by omega) (fun x hx => ⟨by have := ha x hx; omega, (ha x hx).2⟩) (by omega) h3'

theorem refPick_rcs {a : List Int} (hb : a.length ≤ 1073741824) (ha : ∀ x ∈ a, 1 ≤ x ∧ x ≤ 4096) : RCs PP 14 [L a] [] (vOf (refPick a)) :=
  rcs_of c0_ok (by kernel_rfl) (H14_go (pick_ends hb ha 5 0 rfl))
end Go.Aev.M33
end
/- M33Plain -/
section
/- Plain facts on the places that are picked. -/
namespace Go.Aev.M33
open List

theorem bestTo_spec (a : List Int) (cl : Int) (out : List Int) : ∀ k, 0 ≤ bestTo a cl out k → bestTo a cl out k ∉ out ∧ cls (a.getD (bestTo a cl out k).toNat 0) = cl
  | 0, h => by simp [bestTo] at h
  | k + 1, h => by
    simp only [bestTo] at h ⊢
    by_cases hb : better a cl out (bestTo a cl out k) k = true
    · rw [if_pos hb]
      unfold better at hb
      simp only [Bool.and_eq_true, decide_eq_true_eq, Bool.not_eq_true', decide_eq_false_iff_not] at hb
      exact ⟨hb.1.2, by simpa using hb.1.1⟩
    · rw [if_neg hb] at h ⊢
      exact bestTo_spec a cl out k h

/-- four places, each once, of one class -/
theorem leastS_spec {a : List Int} {cl : Int} {out : List Int} (h : leastS a cl = some out) : out.length = 4 ∧ out.Nodup ∧ ∀ i ∈ out, 0 ≤ i ∧ i < a.length ∧ cls (a.getD i.toNat 0) = cl := by
  unfold leastS at h
  have bd : ∀ o, -1 ≤ best a cl o ∧ best a cl o < a.length := fun o => bestTo_bd a cl o a.length
  have sp : ∀ o, 0 ≤ best a cl o → best a cl o ∉ o ∧ cls (a.getD (best a cl o).toNat 0) = cl := fun o => bestTo_spec a cl o a.length
  split at h
  · cases h
  · rename_i h0
    split at h
    · cases h
    · rename_i h1
      split at h
      · cases h
      · rename_i h2
        split at h
        · cases h
        · rename_i h3
          cases h
          have s0 := sp [] (by omega)
          have s1 := sp [best a cl []] (by omega)
          have s2 := sp [best a cl [], best a cl [best a cl []]] (by omega)
          have s3 := sp [best a cl [], best a cl [best a cl []], best a cl [best a cl [], best a cl [best a cl []]]] (by omega)
          have b0 := bd []
          have b1 := bd [best a cl []]
          have b2 := bd [best a cl [], best a cl [best a cl []]]
          have b3 := bd [best a cl [], best a cl [best a cl []], best a cl [best a cl [], best a cl [best a cl []]]]
          generalize best a cl [best a cl [], best a cl [best a cl []], best a cl [best a cl [], best a cl [best a cl []]]] = x3 at *
          generalize best a cl [best a cl [], best a cl [best a cl []]] = x2 at *
          generalize best a cl [best a cl []] = x1 at *
          generalize best a cl [] = x0 at *
          refine ⟨rfl, ?_, ?_⟩
          · simp only [List.mem_cons, List.not_mem_nil, or_false, not_or] at s1 s2 s3
            simp only [List.nodup_cons, List.mem_cons, List.not_mem_nil, or_false, not_or, not_false_eq_true, List.nodup_nil, and_true]
            refine ⟨⟨fun e => s1.1 e.symm, fun e => s2.1.1 e.symm, fun e => s3.1.1 e.symm⟩, ⟨fun e => s2.1.2 e.symm, fun e => s3.1.2.1 e.symm⟩, fun e => s3.1.2.2 e.symm⟩
          · intro i hi
            simp only [List.mem_cons, List.not_mem_nil, or_false] at hi
            rcases hi with rfl | rfl | rfl | rfl
            · exact ⟨by omega, by omega, s0.2⟩
            · exact ⟨by omega, by omega, s1.2⟩
            · exact ⟨by omega, by omega, s2.2⟩
            · exact ⟨by omega, by omega, s3.2⟩

theorem upTo_nodup (out : List Int) (k : Nat) : (upTo out k).Nodup := by
  unfold upTo
  refine List.Pairwise.filter _ ?_
  rw [List.pairwise_map]
  exact List.Pairwise.imp (fun h e => h (by omega)) (show List.Pairwise (· ≠ ·) (List.range k) from List.nodup_range)

theorem upTo_perm {out : List Int} {k : Nat} (hn : out.Nodup) (hi : ∀ i ∈ out, 0 ≤ i ∧ i < k) : upTo out k ~ out := by
  rw [List.perm_ext_iff_of_nodup (upTo_nodup out k) hn]
  intro i
  unfold upTo
  rw [List.mem_filter, List.mem_map]
  constructor
  · intro h; simpa using h.2
  · intro h
    obtain ⟨h1, h2⟩ := hi i h
    exact ⟨⟨i.toNat, by rw [List.mem_range]; omega, by omega⟩, by simpa using h⟩

theorem leastL_spec {a : List Int} {cl : Int} (h : leastL a cl ≠ []) : (leastL a cl).length = 4 ∧ (leastL a cl).Nodup ∧ ∃ out, leastS a cl = some out ∧ leastL a cl ~ out ∧ leastL a cl = upTo out a.length := by
  unfold leastL at h ⊢
  cases hs : leastS a cl with
  | none => rw [hs] at h; exact absurd rfl h
  | some out =>
    obtain ⟨h1, h2, h3⟩ := leastS_spec hs
    have hp := upTo_perm (k := a.length) h2 (fun i hi => ⟨(h3 i hi).1, (h3 i hi).2.1⟩)
    exact ⟨by show (upTo out a.length).length = 4; rw [hp.length_eq, h1], upTo_nodup _ _, out, rfl, hp, rfl⟩

theorem pickC_mem (a : List Int) : ∀ (n c : Nat), pickC a n c = [] ∨ ∃ j : Nat, c ≤ j ∧ j < c + n ∧ pickC a n c = leastL a j ∧ leastL a j ≠ [] ∧ sumAt a (leastL a j) ≤ 4096
  | 0, c => .inl rfl
  | n + 1, c => by
    simp only [pickC]
    split
    · rename_i h; exact .inr ⟨c, Nat.le_refl _, by omega, rfl, h.1, h.2⟩
    · rcases pickC_mem a n (c + 1) with h | ⟨j, h1, h2, h3⟩
      · exact .inl h
      · exact .inr ⟨j, by omega, by omega, h3⟩

theorem refPick_spec {a : List Int} (h : refPick a ≠ []) : (refPick a).length = 4 ∧ (refPick a).Nodup ∧ (∀ i ∈ refPick a, 0 ≤ i ∧ i < a.length) ∧ sumAt a (refPick a) ≤ 4096 := by
  rcases pickC_mem a 5 0 with h1 | ⟨j, _, _, h2, h3, h4⟩
  · exact absurd h1 h
  · have h2' : refPick a = leastL a j := h2
    rw [h2']
    obtain ⟨k1, k2, _⟩ := leastL_spec h3
    exact ⟨k1, k2, fun i hi => leastL_mem hi, h4⟩

/-- the elements at places below k that are not listed -/
def restTo (a l : List Int) : Nat → List Int
  | 0 => []
  | k + 1 => if (k : Int) ∈ l then restTo a l k else restTo a l k ++ [a.getD k 0]
abbrev rest (a l : List Int) : List Int := restTo a l a.length

theorem restTo_len (a l : List Int) : ∀ k, (restTo a l k).length + (upTo l k).length = k
  | 0 => rfl
  | k + 1 => by
    have := restTo_len a l k
    rw [upTo_succ]
    simp only [restTo]
    split <;> simp <;> omega

theorem restTo_mem {a l : List Int} {x : Int} : ∀ {k}, k ≤ a.length → x ∈ restTo a l k → x ∈ a
  | 0, _, h => by simp [restTo] at h
  | k + 1, hk, h => by
    simp only [restTo] at h
    split at h
    · exact restTo_mem (by omega) h
    · rcases List.mem_append.1 h with h | h
      · exact restTo_mem (by omega) h
      · have hget : a.getD k 0 = a[k] := by simp [show k < a.length by omega]
        rw [hget] at h
        simp at h
        rw [h]; exact List.getElem_mem _

theorem rest_len {a l : List Int} (h4 : l.length = 4) (hn : l.Nodup) (hi : ∀ i ∈ l, 0 ≤ i ∧ i < a.length) : (rest a l).length + 4 = a.length := by
  have h1 := restTo_len a l a.length
  have h2 := (upTo_perm hn hi).length_eq
  show (restTo a l a.length).length + 4 = a.length
  omega

theorem sumAt_pos {a p : List Int} (hp : ∀ i ∈ p, 0 ≤ i ∧ i < a.length) (ha : ∀ x ∈ a, 1 ≤ x) : (p.length : Int) ≤ sumAt a p := by
  induction p with
  | nil => simp [sumAt]
  | cons i p ih =>
    have := ih fun j hj => hp j (List.mem_cons_of_mem _ hj)
    obtain ⟨h1, h2⟩ := hp i (by simp)
    have hlt : i.toNat < a.length := by omega
    have h3 := ha a[i.toNat] (List.getElem_mem _)
    have hget : a.getD i.toNat 0 = a[i.toNat] := by simp [hlt]
    simp only [sumAt, List.map_cons, List.sum_cons, List.length_cons] at this ⊢
    rw [hget]
    omega

/-- merging as long as something is picked -/
def settleN : Nat → List Int → Int → List Int × Int
  | 0, a, m => (a, m)
  | n + 1, a, m => if refPick a = [] then (a, m) else settleN n (rest a (refPick a) ++ [sumAt a (refPick a)]) (m + sumAt a (refPick a))
def settle (a : List Int) : List Int × Int := settleN a.length a 0

/-- one merge keeps counts counts, and there is one list less by three -/
theorem next_ok {a : List Int} (ha : ∀ x ∈ a, 1 ≤ x ∧ x ≤ 4096) (h : refPick a ≠ []) :
    (∀ x ∈ rest a (refPick a) ++ [sumAt a (refPick a)], 1 ≤ x ∧ x ≤ 4096) ∧ (rest a (refPick a) ++ [sumAt a (refPick a)]).length + 3 = a.length ∧ 4 ≤ sumAt a (refPick a) ∧ sumAt a (refPick a) ≤ 4096 := by
  obtain ⟨h1, h2, h3, h4⟩ := refPick_spec h
  have hl := rest_len h1 h2 h3
  have hs := sumAt_pos h3 (fun x hx => (ha x hx).1)
  rw [h1] at hs
  refine ⟨fun x hx => ?_, by simp; omega, by omega, h4⟩
  rcases List.mem_append.1 hx with hx | hx
  · exact ha x (restTo_mem (Nat.le_refl _) hx)
  · simp at hx; subst hx; omega

theorem settleN_enough : ∀ (n : Nat) (a : List Int) (m : Int), (∀ x ∈ a, 1 ≤ x ∧ x ≤ 4096) → a.length ≤ n → refPick (settleN n a m).1 = []
  | 0, a, m, ha, h => by
    have : a = [] := List.length_eq_zero_iff.1 (by omega)
    subst this
    simp only [settleN]
    rcases Classical.em (refPick ([] : List Int) = []) with h | h
    · exact h
    · have := (next_ok (a := []) (by simp) h).2.1
      simp at this
  | n + 1, a, m, ha, h => by
    simp only [settleN]
    by_cases hp : refPick a = []
    · rw [if_pos hp]; exact hp
    · rw [if_neg hp]
      obtain ⟨h1, h2, _⟩ := next_ok ha hp
      exact settleN_enough n _ _ h1 (by omega)
end Go.Aev.M33
end
/- M33SortPlain -/
section
namespace Go.Aev.M33
open List
set_option linter.unusedVariables false
/-- the element at a place -/
def nth (xs : List Int) (i : Int) : Int := xs.getD i.toNat 0
/-- two places exchanged -/
def sw (xs : List Int) (i j : Int) : List Int := (xs.set i.toNat (nth xs j)).set j.toNat (nth xs i)
theorem sw_len (xs : List Int) (i j : Int) : (sw xs i j).length = xs.length := by simp [sw]
theorem sw_nth {xs : List Int} {i j p : Int} (hi : 0 ≤ i) (hi' : i < xs.length) (hj : 0 ≤ j) (hj' : j < xs.length) (hp : 0 ≤ p) :
    nth (sw xs i j) p = if p = i then nth xs j else if p = j then nth xs i else nth xs p := by
  unfold sw
  rw [show nth ((xs.set i.toNat (nth xs j)).set j.toNat (nth xs i)) p = ((xs.set i.toNat (nth xs j)).set j.toNat (nth xs i)).getD p.toNat 0 from rfl]
  rw [List.getD_eq_getElem?_getD, List.getElem?_set, List.getElem?_set]
  by_cases h1 : p = j
  · subst h1
    by_cases h2 : p = i
    · subst h2; simp [show p.toNat < xs.length by omega]
    · simp [h2, show p.toNat < xs.length by omega]
  · rw [if_neg (by omega)]
    by_cases h2 : p = i
    · subst h2; simp [show p.toNat < xs.length by omega]
    · rw [if_neg (by omega), if_neg h2, if_neg h1]; simp [nth]
theorem sw_perm {xs : List Int} {i j : Int} (hi : 0 ≤ i) (hi' : i < xs.length) (hj : 0 ≤ j) (hj' : j < xs.length) : sw xs i j ~ xs := by
  have h := @List.set_set_perm Int xs i.toNat j.toNat (by omega) (by omega)
  have e1 : nth xs j = xs[j.toNat]'(by omega) := by
    unfold nth; rw [List.getD_eq_getElem?_getD, List.getElem?_eq_getElem (by omega)]; rfl
  have e2 : nth xs i = xs[i.toNat]'(by omega) := by
    unfold nth; rw [List.getD_eq_getElem?_getD, List.getElem?_eq_getElem (by omega)]; rfl
  unfold sw; rw [e1, e2]; exact h

/-- moved within [a, b) -/
structure Mv (xs ys : List Int) (a b : Int) : Prop where
  perm : ys ~ xs
  out : ∀ p, 0 ≤ p → p < a ∨ b ≤ p → nth ys p = nth xs p
  inn : ∀ p, a ≤ p → p < b → ∃ q, a ≤ q ∧ q < b ∧ nth ys p = nth xs q
theorem Mv.len {xs ys : List Int} {a b : Int} (h : Mv xs ys a b) : ys.length = xs.length := h.perm.length_eq
theorem Mv.refl (xs : List Int) (a b : Int) : Mv xs xs a b := ⟨.refl _, fun _ _ _ => rfl, fun p h1 h2 => ⟨p, h1, h2, rfl⟩⟩
theorem Mv.trans {xs ys zs : List Int} {a b : Int} (h : Mv xs ys a b) (h' : Mv ys zs a b) : Mv xs zs a b := by
  refine ⟨h'.perm.trans h.perm, fun p h0 hp => (h'.out p h0 hp).trans (h.out p h0 hp), fun p h1 h2 => ?_⟩
  obtain ⟨q, q1, q2, e⟩ := h'.inn p h1 h2
  obtain ⟨r, r1, r2, e'⟩ := h.inn q q1 q2
  exact ⟨r, r1, r2, e.trans e'⟩
theorem Mv.mono {xs ys : List Int} {a b c d : Int} (h : Mv xs ys a b) (h0 : 0 ≤ c) (h1 : c ≤ a) (h2 : b ≤ d) : Mv xs ys c d := by
  refine ⟨h.perm, fun p h0 hp => h.out p h0 (by omega), fun p k1 k2 => ?_⟩
  by_cases hp : a ≤ p ∧ p < b
  · obtain ⟨q, q1, q2, e⟩ := h.inn p hp.1 hp.2
    exact ⟨q, by omega, by omega, e⟩
  · exact ⟨p, k1, k2, h.out p (by omega) (by omega)⟩
theorem Mv.sw {xs : List Int} {a b i j : Int} (ha : 0 ≤ a) (hi : a ≤ i) (hi' : i < b) (hj : a ≤ j) (hj' : j < b) (hb : b ≤ xs.length) : Mv xs (sw xs i j) a b := by
  refine ⟨sw_perm (by omega) (by omega) (by omega) (by omega), fun p h0 hp => ?_, fun p h1 h2 => ?_⟩
  · rw [sw_nth (by omega) (by omega) (by omega) (by omega) h0, if_neg (by omega), if_neg (by omega)]
  · rw [sw_nth (by omega) (by omega) (by omega) (by omega) (by omega)]
    split
    · exact ⟨j, hj, hj', rfl⟩
    · split
      · exact ⟨i, hi, hi', rfl⟩
      · exact ⟨p, h1, h2, rfl⟩

/-- the order by key, then by number -/
def lt (k : Int → Int) (x y : Int) : Prop := k x < k y ∨ (k x = k y ∧ x < y)
theorem lt_trans {k : Int → Int} {x y z : Int} (h : lt k x y) (h' : lt k y z) : lt k x z := by unfold lt at *; omega
/-- sorted on [a, b) -/
def Srt (k : Int → Int) (xs : List Int) (a b : Int) : Prop := ∀ p q, a ≤ p → p < q → q < b → lt k (nth xs p) (nth xs q)
def Asc (xs : List Int) (a b : Int) : Prop := ∀ p q, a ≤ p → p < q → q < b → nth xs p < nth xs q

/-- the outer loop of insertion -/
structure InsO (k : Int → Int) (xs : List Int) (lo hi i : Int) : Prop where
  srt : Srt k xs lo i
  asc : Asc xs i hi
  mix : ∀ p q, lo ≤ p → p < i → i ≤ q → q < hi → nth xs p < nth xs q
/-- the inner loop -/
structure InsI (k : Int → Int) (xs : List Int) (lo hi i j : Int) : Prop where
  srt : ∀ p q, lo ≤ p → p < q → q ≤ i → p ≠ j → q ≠ j → lt k (nth xs p) (nth xs q)
  up : ∀ q, j < q → q ≤ i → lt k (nth xs j) (nth xs q)
  low : ∀ p, lo ≤ p → p < j → nth xs p < nth xs j
  asc : Asc xs (i + 1) hi
  mix : ∀ p q, lo ≤ p → p < i + 1 → i + 1 ≤ q → q < hi → nth xs p < nth xs q
theorem InsO.start {k : Int → Int} {xs : List Int} {lo hi : Int} (h : Asc xs lo hi) : InsO k xs lo hi (lo + 1) :=
  ⟨fun p q h1 h2 h3 => by omega, fun p q h1 h2 h3 => h p q (by omega) h2 h3, fun p q h1 h2 h3 h4 => h p q (by omega) (by omega) h4⟩
theorem InsO.inn {k : Int → Int} {xs : List Int} {lo hi i : Int} (h : InsO k xs lo hi i) (hl : lo < i) (hi' : i < hi) : InsI k xs lo hi i i := by
  refine ⟨fun p q h1 h2 h3 h4 h5 => h.srt p q h1 h2 (by omega), fun q h1 h2 => by omega, fun p h1 h2 => h.mix p i h1 h2 (by omega) hi', fun p q h1 h2 h3 => h.asc p q (by omega) h2 h3, fun p q h1 h2 h3 h4 => ?_⟩
  by_cases hp : p = i
  · subst hp; exact h.asc p q (by omega) (by omega) h4
  · exact h.mix p q h1 (by omega) (by omega) h4
theorem InsI.stay {k : Int → Int} {xs : List Int} {lo hi i j : Int} (h : InsI k xs lo hi i j) (hj : lo < j) (hji : j ≤ i) (hc : k (nth xs (j - 1)) ≤ k (nth xs j)) : InsO k xs lo hi (i + 1) := by
  refine ⟨fun p q h1 h2 h3 => ?_, h.asc, h.mix⟩
  have hl : lt k (nth xs (j - 1)) (nth xs j) := by
    have := h.low (j - 1) (by omega) (by omega)
    unfold lt; omega
  by_cases hp : p = j
  · subst hp; exact h.up q (by omega) (by omega)
  · by_cases hq : q = j
    · subst hq
      by_cases hp1 : p = q - 1
      · subst hp1; exact hl
      · exact lt_trans (h.srt p (q - 1) h1 (by omega) (by omega) (by omega) (by omega)) hl
    · exact h.srt p q h1 h2 (by omega) hp hq
theorem InsI.bot {k : Int → Int} {xs : List Int} {lo hi i : Int} (h : InsI k xs lo hi i lo) : InsO k xs lo hi (i + 1) := by
  refine ⟨fun p q h1 h2 h3 => ?_, h.asc, h.mix⟩
  by_cases hp : p = lo
  · subst hp; exact h.up q (by omega) (by omega)
  · exact h.srt p q h1 h2 (by omega) hp (by omega)
theorem InsI.swap {k : Int → Int} {xs : List Int} {lo hi i j : Int} (h : InsI k xs lo hi i j) (h0 : 0 ≤ lo) (hj : lo < j) (hji : j ≤ i) (hih : i < hi) (hn : hi ≤ xs.length) (hc : k (nth xs j) < k (nth xs (j - 1))) :
    InsI k (sw xs j (j - 1)) lo hi i (j - 1) := by
  have e : ∀ p, 0 ≤ p → nth (sw xs j (j - 1)) p = if p = j then nth xs (j - 1) else if p = j - 1 then nth xs j else nth xs p :=
    fun p hp => sw_nth (by omega) (by omega) (by omega) (by omega) hp
  have hl : lt k (nth xs j) (nth xs (j - 1)) := .inl hc
  refine ⟨fun p q h1 h2 h3 h4 h5 => ?_, fun q h1 h2 => ?_, fun p h1 h2 => ?_, fun p q h1 h2 h3 => ?_, fun p q h1 h2 h3 h4 => ?_⟩
  · rw [e p (by omega), e q (by omega), if_neg h4, if_neg h5]
    by_cases hp : p = j
    · subst hp
      rw [if_pos rfl, if_neg (by omega)]
      exact h.srt (p - 1) q (by omega) (by omega) h3 (by omega) (by omega)
    · rw [if_neg hp]
      by_cases hq : q = j
      · subst hq
        rw [if_pos rfl]
        exact h.srt p (q - 1) h1 (by omega) (by omega) hp (by omega)
      · rw [if_neg hq]; exact h.srt p q h1 h2 h3 hp hq
  · rw [e (j - 1) (by omega), e q (by omega), if_neg (by omega), if_pos rfl]
    by_cases hq : q = j
    · rw [if_pos hq]; exact hl
    · rw [if_neg hq, if_neg (by omega)]; exact h.up q (by omega) h2
  · rw [e p (by omega), e (j - 1) (by omega), if_neg (by omega), if_neg (by omega), if_neg (by omega), if_pos rfl]
    exact h.low p h1 (by omega)
  · rw [e p (by omega), e q (by omega), if_neg (by omega), if_neg (by omega), if_neg (by omega), if_neg (by omega)]
    exact h.asc p q h1 h2 h3
  · rw [e p (by omega), e q (by omega), if_neg (by omega : ¬ q = j), if_neg (by omega : ¬ q = j - 1)]
    split
    · exact h.mix (j - 1) q (by omega) (by omega) h3 h4
    · split
      · exact h.mix j q (by omega) (by omega) h3 h4
      · exact h.mix p q h1 h2 h3 h4
theorem InsO.fin {k : Int → Int} {xs : List Int} {lo hi i : Int} (h : InsO k xs lo hi i) (hi' : hi ≤ i) : Srt k xs lo hi := fun p q h1 h2 h3 => h.srt p q h1 h2 (by omega)

/-- swapRange after i turns -/
def SwR (xs ys : List Int) (a b i : Int) : Prop := ∀ p, 0 ≤ p → nth ys p = if a ≤ p ∧ p < a + i then nth xs (b + (p - a)) else if b ≤ p ∧ p < b + i then nth xs (a + (p - b)) else nth xs p
theorem SwR.zero (xs : List Int) (a b : Int) : SwR xs xs a b 0 := fun p _ => by rw [if_neg (by omega), if_neg (by omega)]
theorem SwR.next {xs ys : List Int} {a b i : Int} (h : SwR xs ys a b i) (ha : 0 ≤ a) (hi : 0 ≤ i) (hab : a + i < b) (hb : b + i < xs.length) (hl : ys.length = xs.length) : SwR xs (sw ys (a + i) (b + i)) a b (i + 1) := by
  intro p hp
  rw [sw_nth (by omega) (by omega) (by omega) (by omega) hp, h (b + i) (by omega), h (a + i) (by omega), h p hp]
  repeat' split
  all_goals first | (exfalso; omega) | (congr 1 <;> omega)

/-- [s, m) and [m, e) exchanged -/
structure Rot (xs ys : List Int) (s m e : Int) : Prop where
  perm : ys ~ xs
  left : ∀ p, s ≤ p → p < s + (e - m) → nth ys p = nth xs (p - s + m)
  right : ∀ p, s + (e - m) ≤ p → p < e → nth ys p = nth xs (p - (e - m))
  out : ∀ p, 0 ≤ p → p < s ∨ e ≤ p → nth ys p = nth xs p
theorem Rot.of_swap {xs ys : List Int} {m i : Int} (hp : ys ~ xs) (h0 : 0 ≤ m - i) (h : SwR xs ys (m - i) m i) (hi : 0 ≤ i) : Rot xs ys (m - i) m (m + i) := by
  refine ⟨hp, fun p h1 h2 => ?_, fun p h1 h2 => ?_, fun p h1 h2 => ?_⟩
  · rw [h p (by omega), if_pos (by omega)]; congr 1; omega
  · rw [h p (by omega), if_neg (by omega), if_pos (by omega)]; congr 1; omega
  · rw [h p (by omega), if_neg (by omega), if_neg (by omega)]
theorem Rot.left_step {xs ys zs : List Int} {m i j : Int} (hp : ys ~ xs) (h0 : 0 ≤ m - i) (hj : 0 ≤ j) (hji : j < i) (h : SwR xs ys (m - i) m j) (hr : Rot ys zs (m - (i - j)) m (m + j)) : Rot xs zs (m - i) m (m + j) := by
  refine ⟨hr.perm.trans hp, fun p h1 h2 => ?_, fun p h1 h2 => ?_, fun p h1 h2 => ?_⟩
  · rw [hr.out p (by omega) (by omega), h p (by omega), if_pos (by omega)]; congr 1; omega
  · by_cases hp2 : p < m - (i - j) + (m + j - m)
    · rw [hr.left p (by omega) hp2, h _ (by omega), if_neg (by omega), if_pos (by omega)]; congr 1; omega
    · rw [hr.right p (by omega) h2, h _ (by omega), if_neg (by omega), if_neg (by omega)]
  · rw [hr.out p h1 (by omega), h p h1, if_neg (by omega), if_neg (by omega)]
theorem Rot.right_step {xs ys zs : List Int} {m i j : Int} (hp : ys ~ xs) (h0 : 0 ≤ m - i) (hi : 0 ≤ i) (hij : i < j) (h : SwR xs ys (m - i) (m + j - i) i) (hr : Rot ys zs (m - i) m (m + (j - i))) : Rot xs zs (m - i) m (m + j) := by
  refine ⟨hr.perm.trans hp, fun p h1 h2 => ?_, fun p h1 h2 => ?_, fun p h1 h2 => ?_⟩
  · by_cases hp2 : p < m - i + (m + (j - i) - m)
    · rw [hr.left p h1 hp2, h _ (by omega), if_neg (by omega)]
      by_cases hp3 : m + j - i ≤ p - (m - i) + m
      · omega
      · rw [if_neg (by omega)]
    · by_cases hp3 : p < m + (j - i)
      · rw [hr.right p (by omega) hp3, h _ (by omega), if_pos (by omega)]; congr 1; omega
      · rw [hr.out p (by omega) (by omega), h p (by omega)]
        omega
  · rw [hr.out p (by omega) (by omega), h p (by omega), if_neg (by omega), if_pos (by omega)]; congr 1; omega
  · rw [hr.out p h1 (by omega), h p h1, if_neg (by omega), if_neg (by omega)]
end Go.Aev.M33
end
/- M33SettleDefs -/
section
namespace Go.Aev.M33
set_option maxRecDepth 1000000
set_option linter.unusedVariables false
/-- with what Pick answers here -/
def tab3 (r : V) (g : FuncId) (args : List V) (rows : Aev.Rows) : Option (List Prop × V) :=
  match g, args with
  | 14, [v] => match listOf rows v with
    | some (ps, es) => some (ps ++ [isInts es, es.length ≤ 1073741824, ∀ x ∈ es.map unI, 1 ≤ x ∧ x ≤ 4096, vOf (refPick (es.map unI)) = r], r)
    | none => none
  | _, _ => tab1 g args rows

theorem tab3_ok {r : V} {g : FuncId} {args : List V} {rows : Aev.Rows} {ps : List Prop} {v : V} (h : tab3 r g args rows = some (ps, v)) (hp : AllP ps) : RCs PP g args rows v := by
  unfold tab3 at h
  split at h
  · split at h
    · rename_i qs es hl
      cases h
      obtain ⟨h1, h2, h3, h4, h5, _⟩ := AllP_append hp
      have := refPick_rcs (a := es.map unI) (by rw [map_len]; exact h3) h4
      rw [h5] at this
      refine this.of_lists (.cons ?_ .nil)
      have e : L (es.map unI) = .d (.list es) := by unfold isInts at h2; rw [L, ← h2]
      rw [e]; exact .list hl h1
    · cases h
  · exact tab1_ok h hp
noncomputable def c3 (r : V) : SCfg := mk (fun _ => true) (tab3 r)
theorem c3_ok (r : V) : COK (c3 r).cfg := mk_ok (fun g args rows ps v h hp => tab3_ok h hp)

/-- decisions, lists, rows, mode -/
def gdr (l : List (Nat × Bool)) (lst : List (Nat × (Nat → D))) (row : List (Nat × (Nat → D))) (md : Nat := 0) : Hint :=
  { gds l lst md with row := fun t => row.find? (fun p => Nat.beq p.1 t) |>.map (·.2) }

noncomputable def td11o : List AItem := (nextOf (sTo c0 (gds [] [] 1) (atLoop 1) 300 (start c0 11 [L [0]] []))).fr.todo
/-- Settle's outer loop: its struct holds v and m -/
noncomputable def H11o (v : V) (row : Slot) (m : Int) : AS := hd 11 td11o 51 [(2, .pt 0 0 0 0), (3, .pt 1 0 0 0)] [.live (.box [.nil, I 0] false), .live (.box [v, I m] false), row]
noncomputable def td11i : List AItem := (nextOf (sTo (c3 (L [0])) (gdr [(17,false)] [] []) (atLoop 5) 300 (H11o (SL 2 [0]) (RW [0]) 0))).fr.todo
noncomputable def H11i (v : V) (cur l : List Int) (s : Int) (v6 : V) (k : Nat) (rows : Aev.Rows) (m : Int) : AS :=
  hd 11 td11i 51 [(2, .pt 0 0 0 0), (3, .pt 1 0 0 0), (4, L l), (5, I s), (6, v6), (7, I k)] ([.live (.box [.nil, I 0] false), .live (.box [v, I m] false), .live (.dat 1 (ints cur) true)] ++ rows)
end Go.Aev.M33
end
/- M33SettleSteps -/
section
namespace Go.Aev.M33
set_option maxRecDepth 1000000
set_option linter.unusedSimpArgs false
set_option linter.unusedVariables false
theorem H11_go {a : List Int} {Q : V → Aev.Rows → Prop} (h0 : 0 < a.length) (hb : a.length ≤ 1073741824) (h : Ends c0 0 (H11o (.sl 2 1 0 (0 + (ints a).length) (0 + (ints a).length) false) (RW a) 0) Q) : Ends c0 0 (start c0 11 [L a] []) Q :=
  Ends.cfg rfl (Ends.turn (c := c0) c0_ok (gds [] [] 1) (atLoop 1) 300 [0, 3, 2] [2, 3] (ps := [(List.all (ints a) fun e => List.length (D.cells e) == nat_lit 1) = true, nat_lit 0 < nat_lit 1 ∧   List.length (ints a) ≠ nat_lit 0 ∧     nat_lit 1 = nat_lit 1 ∧       nat_lit 1 = nat_lit 1 ∧         nat_lit 0 ≤ nat_lit 0 ∧           ¬nat_lit 0 + List.length (ints a) ≤ nat_lit 0 ∧             nat_lit 2 * (nat_lit 0 + List.length (ints a)) * nat_lit 8 ≤ nat_lit 281474976710656 ∧               nat_lit 0 + List.length (ints a) ≤ nat_lit 4611686018427387904]) (by kernel_rfl) (by
    (try simp only [AllP, Int.toNat_natCast, ints_len, decide_eq_true_eq, decide_eq_false_iff_not, beq_eq_false_iff_ne, beq_iff_eq, bne_iff_ne, bne_eq_false_iff_eq, Bool.not_eq_true', Bool.not_eq_false', Int.not_lt, Int.not_le, gt_iff_lt, ge_iff_le, ne_eq, and_true, true_and, List.drop_zero, ints_take, ints_drop, List.take_length, unI_ints, List.map_nil, List.length_nil, List.not_mem_nil, ints_all])
    all_goals (repeat' (first | with_reducible assumption | with_reducible rfl | omega | with_reducible exact ints_get (by omega) | with_reducible apply And.intro | unfold inInt | with_reducible exact isInts_ints _ | with_reducible exact isInts_nil))) (Ends.cfg rfl h))
theorem H11_end {cur : List Int} {m : Int} {Q : V → Aev.Rows → Prop} (hb : cur.length ≤ 1073741824) (ha : ∀ x ∈ cur, 1 ≤ x ∧ x ≤ 4096) (hp : vOf (refPick cur) = .nil) (h : Q (.agg [SL 2 cur, I m]) ([.live (.box [SL 2 cur, I m] false), .live (.box [SL 2 cur, I m] false), RW cur])) : Ends c0 0 (H11o (SL 2 cur) (RW cur) m) Q :=
  Ends.cfg rfl (Ends.fin (c := (c3 .nil)) (c3_ok .nil) (gdr [(17,true)] [] []) 300 (ps := [nat_lit 1 = nat_lit 1 ∧ nat_lit 0 + List.length cur ≤ List.length (ints cur), isInts (List.take (List.length cur) (List.drop (nat_lit 0) (ints cur))), List.length (List.take (List.length cur) (List.drop (nat_lit 0) (ints cur))) ≤ nat_lit 1073741824, ∀ (x : Int),   x ∈ List.map unI (List.take (List.length cur) (List.drop (nat_lit 0) (ints cur))) → (1 : Int) ≤ x ∧ x ≤ (4096 : Int), vOf (refPick (List.map unI (List.take (List.length cur) (List.drop (nat_lit 0) (ints cur))))) = V.nil, true = true]) (by kernel_rfl) (by
    (try simp only [AllP, Int.toNat_natCast, ints_len, decide_eq_true_eq, decide_eq_false_iff_not, beq_eq_false_iff_ne, beq_iff_eq, bne_iff_ne, bne_eq_false_iff_eq, Bool.not_eq_true', Bool.not_eq_false', Int.not_lt, Int.not_le, gt_iff_lt, ge_iff_le, ne_eq, and_true, true_and, List.drop_zero, ints_take, ints_drop, List.take_length, unI_ints, List.map_nil, List.length_nil, List.not_mem_nil, ints_all])
    all_goals (repeat' (first | with_reducible assumption | with_reducible rfl | omega | with_reducible exact ints_get (by omega) | with_reducible apply And.intro | unfold inInt | with_reducible exact isInts_ints _ | with_reducible exact isInts_nil))) h)
theorem H11_in {cur l : List Int} {m : Int} {Q : V → Aev.Rows → Prop} (hb : cur.length ≤ 1073741824) (ha : ∀ x ∈ cur, 1 ≤ x ∧ x ≤ 4096) (hp : vOf (refPick cur) = L l) (h0 : 0 < l.length) (hi : ∀ i ∈ l, 0 ≤ i ∧ i < (cur.length : Int)) (hll : l.length ≤ 1073741824) (ha0 : ∀ x ∈ cur, 0 ≤ x ∧ x ≤ 4096) (h : Ends c0 0 (H11i (SL 2 cur) cur l (sumAt ((ints cur |>.drop 0 |>.take cur.length).map unI) ((ints l).map unI)) .nil 0 [] m) Q) : Ends c0 0 (H11o (SL 2 cur) (RW cur) m) Q :=
  Ends.cfg rfl (Ends.turn (c := (c3 (L l))) (c3_ok (L l)) (gdr [(17,false)] [] []) (atLoop 5) 300 [0, 1, 2] [2, 3, 4, 5, 6, 7] (ps := [nat_lit 1 = nat_lit 1 ∧ nat_lit 0 + List.length cur ≤ List.length (ints cur), isInts (List.take (List.length cur) (List.drop (nat_lit 0) (ints cur))), List.length (List.take (List.length cur) (List.drop (nat_lit 0) (ints cur))) ≤ nat_lit 1073741824, ∀ (x : Int),   x ∈ List.map unI (List.take (List.length cur) (List.drop (nat_lit 0) (ints cur))) → (1 : Int) ≤ x ∧ x ≤ (4096 : Int), vOf (refPick (List.map unI (List.take (List.length cur) (List.drop (nat_lit 0) (ints cur))))) = L l, ((↑(List.length (ints l)) : Int) == (0 : Int)) = false, nat_lit 1 = nat_lit 1 ∧ nat_lit 0 + List.length cur ≤ List.length (ints cur), isInts (List.take (List.length cur) (List.drop (nat_lit 0) (ints cur))), isInts (ints l), List.length (ints l) ≤ nat_lit 1073741824, ∀ (i : Int),   i ∈ List.map unI (ints l) →     (0 : Int) ≤ i ∧       i < (↑(List.length (List.map unI (List.take (List.length cur) (List.drop (nat_lit 0) (ints cur))))) : Int), ∀ (x : Int),   x ∈ List.map unI (List.take (List.length cur) (List.drop (nat_lit 0) (ints cur))) → (0 : Int) ≤ x ∧ x ≤ (4096 : Int)]) (by kernel_rfl) (by
    (try simp only [AllP, Int.toNat_natCast, ints_len, decide_eq_true_eq, decide_eq_false_iff_not, beq_eq_false_iff_ne, beq_iff_eq, bne_iff_ne, bne_eq_false_iff_eq, Bool.not_eq_true', Bool.not_eq_false', Int.not_lt, Int.not_le, gt_iff_lt, ge_iff_le, ne_eq, and_true, true_and, List.drop_zero, ints_take, ints_drop, List.take_length, unI_ints, List.map_nil, List.length_nil, List.not_mem_nil, ints_all])
    all_goals (repeat' (first | with_reducible assumption | with_reducible rfl | omega | with_reducible exact ints_get (by omega) | with_reducible apply And.intro | unfold inInt | with_reducible exact isInts_ints _ | with_reducible exact isInts_nil))) (Ends.cfg rfl h))
theorem H11_n_skip {cur l : List Int} {s m : Int} {k : Nat} {Q : V → Aev.Rows → Prop} (hk : k < cur.length) (hb : cur.length ≤ 1073741824) (hll : l.length ≤ 1073741824) (hm : (k : Int) ∈ l) (h : Ends c0 0 (H11i (SL 2 cur) cur l s (.nil) (k + 1) [] m) Q) : Ends c0 0 (H11i (SL 2 cur) cur l s (.nil) k [] m) Q :=
  Ends.cfg rfl (Ends.turn (c := c1) c1_ok (gdr [(27,true),(33,false)] [] [(2, el cur)]) (atLoop 5) 300 [0, 1, 2] [2, 3, 4, 5, 6, 7] (ps := [decide ((↑k : Int) < (↑(List.length cur) : Int)) = true, isInts (ints l), List.length (ints l) ≤ nat_lit 4611686018427387904, (!decide ((↑k : Int) ∈ List.map unI (ints l))) = false, inInt ((↑k : Int) + (1 : Int))]) (by kernel_rfl) (by
    (try simp only [AllP, Int.toNat_natCast, ints_len, decide_eq_true_eq, decide_eq_false_iff_not, beq_eq_false_iff_ne, beq_iff_eq, bne_iff_ne, bne_eq_false_iff_eq, Bool.not_eq_true', Bool.not_eq_false', Int.not_lt, Int.not_le, gt_iff_lt, ge_iff_le, ne_eq, and_true, true_and, List.drop_zero, ints_take, ints_drop, List.take_length, unI_ints, List.map_nil, List.length_nil, List.not_mem_nil, ints_all])
    all_goals (repeat' (first | with_reducible assumption | with_reducible rfl | omega | with_reducible exact ints_get (by omega) | with_reducible apply And.intro | unfold inInt | with_reducible exact isInts_ints _ | with_reducible exact isInts_nil))) (Ends.cfg rfl h))
theorem H11_n_take {cur l : List Int} {s m : Int} {k : Nat} {Q : V → Aev.Rows → Prop} (hk : k < cur.length) (hb : cur.length ≤ 1073741824) (hll : l.length ≤ 1073741824) (hm : (k : Int) ∉ l) (h : Ends c0 0 (H11i (SL 2 cur) cur l s (.sl 3 1 0 1 1 false) (k + 1) [.live (.dat 1 (ints [cur.getD (0 + k) 0]) false)] m) Q) : Ends c0 0 (H11i (SL 2 cur) cur l s (.nil) k [] m) Q :=
  Ends.cfg rfl (Ends.turn (c := c1) c1_ok (gdr [(27,true),(33,true)] [] [(2, el cur)] 1) (atLoop 5) 300 [0, 1, 2, 4] [2, 3, 4, 5, 6, 7] (ps := [decide ((↑k : Int) < (↑(List.length cur) : Int)) = true, isInts (ints l), List.length (ints l) ≤ nat_lit 4611686018427387904, (!decide ((↑k : Int) ∈ List.map unI (ints l))) = true, nat_lit 1 = nat_lit 1 ∧ (0 : Int) ≤ (↑k : Int) ∧ (↑k : Int) < (↑(List.length cur) : Int), nat_lit 1 = nat_lit 1 ∧   (ints cur)[nat_lit 0 + Int.toNat (↑k : Int)]? =     some (D.int IntKind.i64 (List.getD cur (nat_lit 0 + Int.toNat (↑k : Int)) (0 : Int))), nat_lit 1 = nat_lit 1 ∧ nat_lit 1 = nat_lit 1 ∧ nat_lit 1 ≤ nat_lit 1, nat_lit 0 < nat_lit 1 ∧   nat_lit 1 ≠ nat_lit 0 ∧ nat_lit 16 ≤ nat_lit 281474976710656 ∧ nat_lit 1 ≤ nat_lit 4611686018427387904, inInt ((↑k : Int) + (1 : Int))]) (by kernel_rfl) (by
    (try simp only [AllP, Int.toNat_natCast, ints_len, decide_eq_true_eq, decide_eq_false_iff_not, beq_eq_false_iff_ne, beq_iff_eq, bne_iff_ne, bne_eq_false_iff_eq, Bool.not_eq_true', Bool.not_eq_false', Int.not_lt, Int.not_le, gt_iff_lt, ge_iff_le, ne_eq, and_true, true_and, List.drop_zero, ints_take, ints_drop, List.take_length, unI_ints, List.map_nil, List.length_nil, List.not_mem_nil, ints_all])
    all_goals (repeat' (first | with_reducible assumption | with_reducible rfl | omega | with_reducible exact ints_get (by omega) | with_reducible apply And.intro | unfold inInt | with_reducible exact isInts_ints _ | with_reducible exact isInts_nil))) (Ends.cfg rfl h))
theorem H11_n_out {cur l : List Int} {s m : Int} {k : Nat} {Q : V → Aev.Rows → Prop} (hk : cur.length ≤ k) (h1 : inInt (m + s)) (h : Ends c0 0 (H11o (.sl 2 1 0 1 1 false) (.live (.dat 1 (ints [s]) false)) (m + s)) Q) : Ends c0 0 (H11i (SL 2 cur) cur l s (.nil) k [] m) Q :=
  Ends.cfg rfl (Ends.turn (c := c1) c1_ok (gdr [(27,false)] [] [] 1) (atLoop 1) 300 [0, 1, 6] [2, 3] (ps := [decide ((↑k : Int) < (↑(List.length cur) : Int)) = false, nat_lit 1 = nat_lit 1 ∧ nat_lit 1 = nat_lit 1 ∧ nat_lit 1 ≤ nat_lit 1, nat_lit 0 < nat_lit 1 ∧   nat_lit 1 ≠ nat_lit 0 ∧ nat_lit 16 ≤ nat_lit 281474976710656 ∧ nat_lit 1 ≤ nat_lit 4611686018427387904, inInt (m + s)]) (by kernel_rfl) (by
    (try simp only [AllP, Int.toNat_natCast, ints_len, decide_eq_true_eq, decide_eq_false_iff_not, beq_eq_false_iff_ne, beq_iff_eq, bne_iff_ne, bne_eq_false_iff_eq, Bool.not_eq_true', Bool.not_eq_false', Int.not_lt, Int.not_le, gt_iff_lt, ge_iff_le, ne_eq, and_true, true_and, List.drop_zero, ints_take, ints_drop, List.take_length, unI_ints, List.map_nil, List.length_nil, List.not_mem_nil, ints_all])
    all_goals (repeat' (first | with_reducible assumption | with_reducible rfl | omega | with_reducible exact ints_get (by omega) | with_reducible apply And.intro | unfold inInt | with_reducible exact isInts_ints _ | with_reducible exact isInts_nil))) (Ends.cfg rfl h))
theorem H11_s_skip {nx : List Int} {cur l : List Int} {s m : Int} {k : Nat} {Q : V → Aev.Rows → Prop} (hk : k < cur.length) (hb : cur.length ≤ 1073741824) (hll : l.length ≤ 1073741824) (hm : (k : Int) ∈ l) (h : Ends c0 0 (H11i (SL 2 cur) cur l s (SL 3 nx) (k + 1) [RW nx] m) Q) : Ends c0 0 (H11i (SL 2 cur) cur l s (SL 3 nx) k [RW nx] m) Q :=
  Ends.cfg rfl (Ends.turn (c := c1) c1_ok (gdr [(27,true),(33,false)] [] [(2, el cur)]) (atLoop 5) 300 [0, 1, 2, 3] [2, 3, 4, 5, 6, 7] (ps := [decide ((↑k : Int) < (↑(List.length cur) : Int)) = true, isInts (ints l), List.length (ints l) ≤ nat_lit 4611686018427387904, (!decide ((↑k : Int) ∈ List.map unI (ints l))) = false, inInt ((↑k : Int) + (1 : Int))]) (by kernel_rfl) (by
    (try simp only [AllP, Int.toNat_natCast, ints_len, decide_eq_true_eq, decide_eq_false_iff_not, beq_eq_false_iff_ne, beq_iff_eq, bne_iff_ne, bne_eq_false_iff_eq, Bool.not_eq_true', Bool.not_eq_false', Int.not_lt, Int.not_le, gt_iff_lt, ge_iff_le, ne_eq, and_true, true_and, List.drop_zero, ints_take, ints_drop, List.take_length, unI_ints, List.map_nil, List.length_nil, List.not_mem_nil, ints_all])
    all_goals (repeat' (first | with_reducible assumption | with_reducible rfl | omega | with_reducible exact ints_get (by omega) | with_reducible apply And.intro | unfold inInt | with_reducible exact isInts_ints _ | with_reducible exact isInts_nil))) (Ends.cfg rfl h))
theorem H11_s_take {nx : List Int} {cur l : List Int} {s m : Int} {k : Nat} {Q : V → Aev.Rows → Prop} (hk : k < cur.length) (hb : cur.length ≤ 1073741824) (hll : l.length ≤ 1073741824) (hm : (k : Int) ∉ l) (h1 : 0 < nx.length) (h2 : nx.length ≤ 1073741824) (h : Ends c0 0 (H11i (SL 2 cur) cur l s (.sl 3 1 0 (nx.length + 1) (nx.length + 1) false) (k + 1) [.live (.dat 1 (((ints nx).drop 0).take nx.length ++ ints [cur.getD (0 + k) 0]) false)] m) Q) : Ends c0 0 (H11i (SL 2 cur) cur l s (SL 3 nx) k [RW nx] m) Q :=
  Ends.cfg rfl (Ends.turn (c := c1) c1_ok (gdr [(27,true),(33,true)] [] [(2, el cur)] 1) (atLoop 5) 300 [0, 1, 2, 5] [2, 3, 4, 5, 6, 7] (ps := [decide ((↑k : Int) < (↑(List.length cur) : Int)) = true, isInts (ints l), List.length (ints l) ≤ nat_lit 4611686018427387904, (!decide ((↑k : Int) ∈ List.map unI (ints l))) = true, nat_lit 1 = nat_lit 1 ∧ (0 : Int) ≤ (↑k : Int) ∧ (↑k : Int) < (↑(List.length cur) : Int), nat_lit 1 = nat_lit 1 ∧   (ints cur)[nat_lit 0 + Int.toNat (↑k : Int)]? =     some (D.int IntKind.i64 (List.getD cur (nat_lit 0 + Int.toNat (↑k : Int)) (0 : Int))), nat_lit 1 = nat_lit 1 ∧ nat_lit 1 = nat_lit 1 ∧ nat_lit 1 ≤ nat_lit 1, nat_lit 0 < nat_lit 1 ∧   nat_lit 1 ≠ nat_lit 0 ∧     nat_lit 1 = nat_lit 1 ∧       nat_lit 1 = nat_lit 1 ∧         nat_lit 0 + List.length nx ≤ List.length (ints nx) ∧           ¬List.length nx + nat_lit 1 ≤ List.length nx ∧             nat_lit 2 * (List.length nx + nat_lit 1) * nat_lit 8 ≤ nat_lit 281474976710656 ∧               List.length nx + nat_lit 1 ≤ nat_lit 4611686018427387904, inInt ((↑k : Int) + (1 : Int))]) (by kernel_rfl) (by
    (try simp only [AllP, Int.toNat_natCast, ints_len, decide_eq_true_eq, decide_eq_false_iff_not, beq_eq_false_iff_ne, beq_iff_eq, bne_iff_ne, bne_eq_false_iff_eq, Bool.not_eq_true', Bool.not_eq_false', Int.not_lt, Int.not_le, gt_iff_lt, ge_iff_le, ne_eq, and_true, true_and, List.drop_zero, ints_take, ints_drop, List.take_length, unI_ints, List.map_nil, List.length_nil, List.not_mem_nil, ints_all])
    all_goals (repeat' (first | with_reducible assumption | with_reducible rfl | omega | with_reducible exact ints_get (by omega) | with_reducible apply And.intro | unfold inInt | with_reducible exact isInts_ints _ | with_reducible exact isInts_nil))) (Ends.cfg rfl h))
theorem H11_s_out {nx : List Int} {cur l : List Int} {s m : Int} {k : Nat} {Q : V → Aev.Rows → Prop} (hk : cur.length ≤ k) (h1 : inInt (m + s)) (h2 : 0 < nx.length) (h3 : nx.length ≤ 1073741824) (h : Ends c0 0 (H11o (.sl 2 1 0 (nx.length + 1) (nx.length + 1) false) (.live (.dat 1 (((ints nx).drop 0).take nx.length ++ ints [s]) false)) (m + s)) Q) : Ends c0 0 (H11i (SL 2 cur) cur l s (SL 3 nx) k [RW nx] m) Q :=
  Ends.cfg rfl (Ends.turn (c := c1) c1_ok (gdr [(27,false)] [] [] 1) (atLoop 1) 300 [0, 1, 7] [2, 3] (ps := [decide ((↑k : Int) < (↑(List.length cur) : Int)) = false, nat_lit 1 = nat_lit 1 ∧ nat_lit 1 = nat_lit 1 ∧ nat_lit 1 ≤ nat_lit 1, nat_lit 0 < nat_lit 1 ∧   nat_lit 1 ≠ nat_lit 0 ∧     nat_lit 1 = nat_lit 1 ∧       nat_lit 1 = nat_lit 1 ∧         nat_lit 0 + List.length nx ≤ List.length (ints nx) ∧           ¬List.length nx + nat_lit 1 ≤ List.length nx ∧             nat_lit 2 * (List.length nx + nat_lit 1) * nat_lit 8 ≤ nat_lit 281474976710656 ∧               List.length nx + nat_lit 1 ≤ nat_lit 4611686018427387904, inInt (m + s)]) (by kernel_rfl) (by
    (try simp only [AllP, Int.toNat_natCast, ints_len, decide_eq_true_eq, decide_eq_false_iff_not, beq_eq_false_iff_ne, beq_iff_eq, bne_iff_ne, bne_eq_false_iff_eq, Bool.not_eq_true', Bool.not_eq_false', Int.not_lt, Int.not_le, gt_iff_lt, ge_iff_le, ne_eq, and_true, true_and, List.drop_zero, ints_take, ints_drop, List.take_length, unI_ints, List.map_nil, List.length_nil, List.not_mem_nil, ints_all])
    all_goals (repeat' (first | with_reducible assumption | with_reducible rfl | omega | with_reducible exact ints_get (by omega) | with_reducible apply And.intro | unfold inInt | with_reducible exact isInts_ints _ | with_reducible exact isInts_nil))) (Ends.cfg rfl h))
end Go.Aev.M33
end
/- M33RefSettle -/
section
namespace Go.Aev.M33
set_option maxRecDepth 1000000
set_option linter.unusedVariables false

theorem sumAt_ints (a l : List Int) : sumAt ((ints a |>.drop 0 |>.take a.length).map unI) ((ints l).map unI) = sumAt a l := by
  rw [List.drop_zero, ints_take, List.take_length, unI_ints, unI_ints]

/-- the inner loop: the others -/
theorem in_ends {cur l : List Int} {s m : Int} {Q : V → Aev.Rows → Prop} (hb : cur.length ≤ 1073741824) (hll : l.length ≤ 1073741824) : ∀ (n k : Nat), cur.length - k = n → k ≤ cur.length →
    (if rest cur l = [] then Ends c0 0 (H11i (SL 2 cur) cur l s .nil cur.length [] m) Q else Ends c0 0 (H11i (SL 2 cur) cur l s (SL 3 (rest cur l)) cur.length [RW (rest cur l)] m) Q) →
    (if restTo cur l k = [] then Ends c0 0 (H11i (SL 2 cur) cur l s .nil k [] m) Q else Ends c0 0 (H11i (SL 2 cur) cur l s (SL 3 (restTo cur l k)) k [RW (restTo cur l k)] m) Q) := by
  intro n
  induction n with
  | zero => intro k h1 h2 h; have : k = cur.length := by omega
            subst this; exact h
  | succ n ih =>
    intro k h1 h2 h
    have hk : k < cur.length := by omega
    have h3 := ih (k + 1) (by omega) (by omega) h
    have hlen : (restTo cur l k).length ≤ k := by have := restTo_len cur l k; omega
    have e : restTo cur l (k + 1) = if (k : Int) ∈ l then restTo cur l k else restTo cur l k ++ [cur.getD k 0] := rfl
    rw [e] at h3
    generalize restTo cur l k = nx at h3 hlen ⊢
    by_cases hm : (k : Int) ∈ l
    · rw [if_pos hm] at h3
      by_cases he : nx = []
      · rw [if_pos he] at h3 ⊢
        exact H11_n_skip hk hb hll hm h3
      · rw [if_neg he] at h3 ⊢
        exact H11_s_skip hk hb hll hm h3
    · rw [if_neg hm, if_neg (by simp)] at h3
      by_cases he : nx = []
      · subst he
        rw [if_pos rfl]
        refine H11_n_take hk hb hll hm ?_
        rw [Nat.zero_add]
        exact h3
      · rw [if_neg he]
        have hpos : 0 < nx.length := by cases nx with | nil => exact absurd rfl he | cons => simp
        refine H11_s_take hk hb hll hm hpos (by omega) ?_
        have e1 : (((ints nx).drop 0).take nx.length ++ ints [cur.getD (0 + k) 0]) = ints (nx ++ [cur.getD k 0]) := by
          rw [List.drop_zero, ints_take, List.take_length, ints_append, Nat.zero_add]
        have e2 : (nx ++ [cur.getD k 0]).length = nx.length + 1 := by simp
        rw [e1]
        have := h3
        unfold SL at this ⊢
        rw [e2] at this
        exact this

theorem settle_ends {N : Nat} (hN : N ≤ 1073741824) : ∀ (n : Nat) (cur : List Int) (m : Int), cur.length ≤ n → cur.length ≤ N → (∀ x ∈ cur, 1 ≤ x ∧ x ≤ 4096) → 0 ≤ m → m + 4096 * cur.length ≤ 4096 * N →
    Ends c0 0 (H11o (SL 2 cur) (RW cur) m) (fun v rows => convV (liveAt rows) v = some (.d (.agg [.list (ints (settleN n cur m).1), .int .i64 (settleN n cur m).2]))) := by
  have fin : ∀ (cur : List Int) (m : Int), cur.length ≤ N → (∀ x ∈ cur, 1 ≤ x ∧ x ≤ 4096) → refPick cur = [] →
      Ends c0 0 (H11o (SL 2 cur) (RW cur) m) (fun v rows => convV (liveAt rows) v = some (.d (.agg [.list (ints cur), .int .i64 m]))) := by
    intro cur m h1 h2 hp
    refine H11_end (by omega) h2 (by rw [hp]; rfl) ?_
    have : toD1 (liveAt [.live (.box [SL 2 cur, I m] false), .live (.box [SL 2 cur, I m] false), RW cur]) (SL 2 cur) = some (.list (ints cur), [(2, .live (.dat 1 (ints cur) true))]) := by
      simp only [toD1, liveAt]
      simp only [List.getElem?_cons_succ, List.getElem?_cons_zero]
      rw [if_pos ⟨trivial, by rw [ints_len]; omega⟩, List.drop_zero, ints_take, List.take_length]
    simp only [convV, conv1, toDs, this]
    rfl
  intro n
  induction n with
  | zero =>
    intro cur m h1 h2 h3 h4 h5
    have : cur = [] := List.length_eq_zero_iff.1 (by omega)
    subst this
    refine fin [] m (by simp) (by simp) ?_
    exact settleN_enough 0 [] 0 (by simp) (by simp)
  | succ n ih =>
    intro cur m h1 h2 h3 h4 h5
    by_cases hp : refPick cur = []
    · have e : settleN (n + 1) cur m = (cur, m) := by simp [settleN, hp]
      rw [e]
      exact fin cur m h2 h3 hp
    · have e : settleN (n + 1) cur m = settleN n (rest cur (refPick cur) ++ [sumAt cur (refPick cur)]) (m + sumAt cur (refPick cur)) := by simp [settleN, hp]
      rw [e]
      obtain ⟨k1, k2, k3, k4⟩ := next_ok h3 hp
      obtain ⟨p1, p2, p3, p4⟩ := refPick_spec hp
      have h6 := ih (rest cur (refPick cur) ++ [sumAt cur (refPick cur)]) (m + sumAt cur (refPick cur)) (by omega) (by omega) k1 (by omega) (by omega)
      refine H11_in (by omega) h3 (by rw [vOf, if_neg hp]) (by omega) p3 (by omega) (fun x hx => ⟨by have := h3 x hx; omega, (h3 x hx).2⟩) ?_
      rw [sumAt_ints]
      have hin := in_ends (cur := cur) (l := refPick cur) (s := sumAt cur (refPick cur)) (m := m) (Q := fun v rows => convV (liveAt rows) v = some (.d (.agg [.list (ints (settleN n (rest cur (refPick cur) ++ [sumAt cur (refPick cur)]) (m + sumAt cur (refPick cur))).1), .int .i64 (settleN n (rest cur (refPick cur) ++ [sumAt cur (refPick cur)]) (m + sumAt cur (refPick cur))).2]))) (by omega) (by omega) _ 0 rfl (Nat.zero_le _)
      refine hin ?_
      have hrl : (rest cur (refPick cur)).length ≤ 1073741824 := by
        have := restTo_len cur (refPick cur) cur.length
        have : (rest cur (refPick cur)).length ≤ cur.length := by show (restTo cur (refPick cur) cur.length).length ≤ _; omega
        omega
      generalize rest cur (refPick cur) = nx at h6 hrl ⊢
      generalize sumAt cur (refPick cur) = s at *
      by_cases he : nx = []
      · subst he
        rw [if_pos rfl]
        exact H11_n_out (Nat.le_refl _) (lit_in _ (by omega)) h6
      · rw [if_neg he]
        have hpos : 0 < nx.length := by cases nx with | nil => exact absurd rfl he | cons => simp
        refine H11_s_out (Nat.le_refl _) (lit_in _ (by omega)) hpos hrl ?_
        have e1 : (((ints nx).drop 0).take nx.length ++ ints [s]) = ints (nx ++ [s]) := by
          rw [List.drop_zero, ints_take, List.take_length, ints_append]
        have e2 : (nx ++ [s]).length = nx.length + 1 := by simp
        rw [e1]
        have := h6
        unfold SL at this
        rw [e2] at this
        exact this

theorem refSettle_rcs {a : List Int} (h0 : 0 < a.length) (hb : a.length ≤ 1073741824) (ha : ∀ x ∈ a, 1 ≤ x ∧ x ≤ 4096) :
    RCs PP 11 [L a] [] (.d (.agg [.list (ints (settle a).1), .int .i64 (settle a).2])) := by
  refine rcs_of c0_ok (by kernel_rfl) (H11_go h0 hb ?_)
  have := settle_ends hb a.length a 0 (Nat.le_refl _) (Nat.le_refl _) ha (by omega) (by omega)
  unfold SL at this
  have e : 0 + (ints a).length = a.length := by rw [ints_len, Nat.zero_add]
  rw [e]
  exact this
end Go.Aev.M33
end
/- M33CmpDefs -/
section
namespace Go.Aev.M33
set_option maxRecDepth 1000000
set_option linter.unusedVariables false
def cmpI (a b : Int) : Int := if a < b then -1 else if b < a then 1 else 0
/-- the closures' rows: a key out of counts, or the number itself -/
def boxC (es : List D) (ro : Bool) : Slot := .live (.box [.d (.list es)] ro)
def boxF (r : Nat) (ro : Bool) : Slot := .live (.box [.fn 27 [.pt r 0 0 0]] ro)
def boxN (ro : Bool) : Slot := .live (.box [.fn 28 []] ro)
theorem isNaN_rcs (n : Int) : RCs PP 75 [I n] [] (B false) := by
  refine rcs_of c0_ok (by kernel_rfl) ?_
  refine Ends.fin c0_ok {} 100 (ps := []) (v := B (n != n)) (rows := []) (by kernel_rfl) trivial ?_
  have : (n != n) = false := by simp
  rw [this]; rfl
def tabC1 (g : FuncId) (args : List V) (rows : Aev.Rows) : Option (List Prop × V) :=
  match g, args with
  | 75, [.d (.int .i64 n)] => some ([], B false)
  | _, _ => none
noncomputable def cC1 : SCfg := mk (fun _ => true) tabC1
theorem cC1_ok : COK cC1.cfg := mk_ok (fun g args rows ps v h hp => by
  have h : tabC1 g args rows = some (ps, v) := h
  unfold tabC1 at h
  split at h
  · cases h; exact (isNaN_rcs _).of_lists (.cons (.data _) .nil)
  · cases h)
end Go.Aev.M33
end
/- M33Cmp -/
section
namespace Go.Aev.M33
set_option maxRecDepth 1000000
set_option linter.unusedSimpArgs false
set_option linter.unusedVariables false
theorem cmp_lt {a b : Int} {Q : V → Aev.Rows → Prop} (h1 : a < b) (h : Q (I (-1)) ([])) : Ends c0 0 (start cC1 45 [I a, I b] []) Q :=
  Ends.cfg rfl (Ends.fin (c := cC1) cC1_ok (gds [(11,false),(13,false),(16,true)]) 300 (ps := [false = false, false = false, decide (a < b) = true]) (by kernel_rfl) (by
    (try simp only [AllP, Int.toNat_natCast, ints_len, decide_eq_true_eq, decide_eq_false_iff_not, beq_eq_false_iff_ne, beq_iff_eq, bne_iff_ne, bne_eq_false_iff_eq, Bool.not_eq_true', Bool.not_eq_false', Int.not_lt, Int.not_le, gt_iff_lt, ge_iff_le, ne_eq, and_true, true_and])
    all_goals (repeat' (first | with_reducible assumption | with_reducible rfl | omega | with_reducible exact ints_get (by omega) | with_reducible apply And.intro | unfold inInt))) h)
theorem cmp_gt {a b : Int} {Q : V → Aev.Rows → Prop} (h1 : b < a) (h : Q (I 1) ([])) : Ends c0 0 (start cC1 45 [I a, I b] []) Q :=
  Ends.cfg rfl (Ends.fin (c := cC1) cC1_ok (gds [(11,false),(13,false),(16,false),(19,true)]) 300 (ps := [false = false, false = false, decide (a < b) = false, decide (a > b) = true]) (by kernel_rfl) (by
    (try simp only [AllP, Int.toNat_natCast, ints_len, decide_eq_true_eq, decide_eq_false_iff_not, beq_eq_false_iff_ne, beq_iff_eq, bne_iff_ne, bne_eq_false_iff_eq, Bool.not_eq_true', Bool.not_eq_false', Int.not_lt, Int.not_le, gt_iff_lt, ge_iff_le, ne_eq, and_true, true_and])
    all_goals (repeat' (first | with_reducible assumption | with_reducible rfl | omega | with_reducible exact ints_get (by omega) | with_reducible apply And.intro | unfold inInt))) h)
theorem cmp_eq {a b : Int} {Q : V → Aev.Rows → Prop} (h1 : a = b) (h : Q (I 0) ([])) : Ends c0 0 (start cC1 45 [I a, I b] []) Q :=
  Ends.cfg rfl (Ends.fin (c := cC1) cC1_ok (gds [(11,false),(13,false),(16,false),(19,false)]) 300 (ps := [false = false, false = false, decide (a < b) = false, decide (a > b) = false]) (by kernel_rfl) (by
    (try simp only [AllP, Int.toNat_natCast, ints_len, decide_eq_true_eq, decide_eq_false_iff_not, beq_eq_false_iff_ne, beq_iff_eq, bne_iff_ne, bne_eq_false_iff_eq, Bool.not_eq_true', Bool.not_eq_false', Int.not_lt, Int.not_le, gt_iff_lt, ge_iff_le, ne_eq, and_true, true_and])
    all_goals (repeat' (first | with_reducible assumption | with_reducible rfl | omega | with_reducible exact ints_get (by omega) | with_reducible apply And.intro | unfold inInt))) h)
theorem key_fin {a : List Int} {i : Int} {Q : V → Aev.Rows → Prop} (h0 : 0 ≤ i) (h1 : i < a.length) (h : Q (I (a.getD i.toNat 0)) ([boxC (ints a) true])) : Ends c0 0 (start c0 27 [I i, .pt 0 0 0 0] [boxC (ints a) true]) Q :=
  Ends.cfg rfl (Ends.fin (c := c0) c0_ok (gds [] [(4, el a)]) 300 (ps := [(0 : Int) ≤ i ∧ i < (↑(List.length (ints a)) : Int), (ints a)[Int.toNat i]? = some (D.int IntKind.i64 (List.getD a (Int.toNat i) (0 : Int))), nat_lit 1 = nat_lit 1]) (by kernel_rfl) (by
    (try simp only [AllP, Int.toNat_natCast, ints_len, decide_eq_true_eq, decide_eq_false_iff_not, beq_eq_false_iff_ne, beq_iff_eq, bne_iff_ne, bne_eq_false_iff_eq, Bool.not_eq_true', Bool.not_eq_false', Int.not_lt, Int.not_le, gt_iff_lt, ge_iff_le, ne_eq, and_true, true_and])
    all_goals (repeat' (first | with_reducible assumption | with_reducible rfl | omega | with_reducible exact ints_get (by omega) | with_reducible apply And.intro | unfold inInt))) h)
theorem id_fin {i : Int} {Q : V → Aev.Rows → Prop}  (h : Q (I i) ([])) : Ends c0 0 (start c0 28 [I i] []) Q :=
  Ends.cfg rfl (Ends.fin (c := c0) c0_ok (gds []) 300 (ps := []) (by kernel_rfl) (by
    (try simp only [AllP, Int.toNat_natCast, ints_len, decide_eq_true_eq, decide_eq_false_iff_not, beq_eq_false_iff_ne, beq_iff_eq, bne_iff_ne, bne_eq_false_iff_eq, Bool.not_eq_true', Bool.not_eq_false', Int.not_lt, Int.not_le, gt_iff_lt, ge_iff_le, ne_eq, and_true, true_and])
    all_goals (repeat' (first | with_reducible assumption | with_reducible rfl | omega | with_reducible exact ints_get (by omega) | with_reducible apply And.intro | unfold inInt))) h)

theorem compare_rcs (a b : Int) : RCs PP 45 [I a, I b] [] (I (cmpI a b)) := by
  refine rcs_of cC1_ok (by kernel_rfl) ?_
  unfold cmpI
  by_cases h1 : a < b
  · rw [if_pos h1]; exact Ends.cfg rfl (cmp_lt h1 rfl)
  · rw [if_neg h1]
    by_cases h2 : b < a
    · rw [if_pos h2]; exact Ends.cfg rfl (cmp_gt h2 rfl)
    · rw [if_neg h2]; exact Ends.cfg rfl (cmp_eq (by omega) rfl)
theorem key_rcs {a : List Int} {i : Int} (h0 : 0 ≤ i) (h1 : i < a.length) : RCs PP 27 [I i, .pt 0 0 0 0] [boxC (ints a) true] (I (a.getD i.toNat 0)) :=
  rcs_of c0_ok (by kernel_rfl) (key_fin h0 h1 rfl)
theorem id_rcs (i : Int) : RCs PP 28 [I i] [] (I i) := rcs_of c0_ok (by kernel_rfl) (id_fin rfl)

def tabC2 (g : FuncId) (args : List V) (rows : Aev.Rows) : Option (List Prop × V) :=
  match g, args, rows with
  | 45, [.d (.int .i64 a), .d (.int .i64 b)], rows => some ([], I (cmpI a b))
  | 27, [.d (.int .i64 i), .pt 0 0 0 0], [.live (.box [.d (.list es)] true)] => some ([isInts es, 0 ≤ i, i < es.length], I ((es.map unI).getD i.toNat 0))
  | 28, [.d (.int .i64 i)], rows => some ([], I i)
  | _, _, _ => none
noncomputable def cC2 : SCfg := mk (fun _ => true) tabC2
theorem cC2_ok : COK cC2.cfg := mk_ok (fun g args rows ps v h hp => by
  have h : tabC2 g args rows = some (ps, v) := h
  unfold tabC2 at h
  split at h
  · cases h; exact (compare_rcs _ _).of_lists (.cons (.data _) (.cons (.data _) .nil))
  · rename_i i es _hq
    cases h
    obtain ⟨h1, h2, h3, _⟩ := hp
    have := key_rcs (a := es.map unI) (i := i) h2 (by rw [map_len]; exact h3)
    unfold isInts at h1
    rw [← h1] at this
    exact this
  · cases h; exact (id_rcs _).of_lists (.cons (.data _) .nil)
  · cases h)

end Go.Aev.M33
end
/- M33Cmp2 -/
section
namespace Go.Aev.M33
set_option maxRecDepth 1000000
set_option linter.unusedSimpArgs false
set_option linter.unusedVariables false
theorem c44_key {a : List Int} {x y : Int} {Q : V → Aev.Rows → Prop} (h0 : 0 ≤ x) (h1 : x < a.length) (h2 : 0 ≤ y) (h3 : y < a.length) (h : Q (I (cmpI (((ints a).map unI).getD x.toNat 0) (((ints a).map unI).getD y.toNat 0))) ([boxF 1 true, boxC (ints a) true])) : Ends c0 0 (start cC2 44 [I x, I y, .pt 0 0 0 0] [boxF 1 true, boxC (ints a) true]) Q :=
  Ends.cfg rfl (Ends.fin (c := cC2) cC2_ok (gds []) 300 (ps := [isInts (ints a), (0 : Int) ≤ x, x < (↑(List.length (ints a)) : Int), isInts (ints a), (0 : Int) ≤ y, y < (↑(List.length (ints a)) : Int)]) (by kernel_rfl) (by
    (try simp only [AllP, Int.toNat_natCast, ints_len, decide_eq_true_eq, decide_eq_false_iff_not, beq_eq_false_iff_ne, beq_iff_eq, bne_iff_ne, bne_eq_false_iff_eq, Bool.not_eq_true', Bool.not_eq_false', Int.not_lt, Int.not_le, gt_iff_lt, ge_iff_le, ne_eq, and_true, true_and, unI_ints])
    all_goals (repeat' (first | with_reducible assumption | with_reducible rfl | omega | with_reducible exact ints_get (by omega) | with_reducible apply And.intro | unfold inInt | with_reducible exact isInts_ints _))) h)
theorem c44_id {x y : Int} {Q : V → Aev.Rows → Prop}  (h : Q (I (cmpI x y)) ([boxN true])) : Ends c0 0 (start cC2 44 [I x, I y, .pt 0 0 0 0] [boxN true]) Q :=
  Ends.cfg rfl (Ends.fin (c := cC2) cC2_ok (gds []) 300 (ps := []) (by kernel_rfl) (by
    (try simp only [AllP, Int.toNat_natCast, ints_len, decide_eq_true_eq, decide_eq_false_iff_not, beq_eq_false_iff_ne, beq_iff_eq, bne_iff_ne, bne_eq_false_iff_eq, Bool.not_eq_true', Bool.not_eq_false', Int.not_lt, Int.not_le, gt_iff_lt, ge_iff_le, ne_eq, and_true, true_and, unI_ints])
    all_goals (repeat' (first | with_reducible assumption | with_reducible rfl | omega | with_reducible exact ints_get (by omega) | with_reducible apply And.intro | unfold inInt | with_reducible exact isInts_ints _))) h)

theorem cmp_key_rcs {a : List Int} {x y : Int} (h0 : 0 ≤ x) (h1 : x < a.length) (h2 : 0 ≤ y) (h3 : y < a.length) : RCs PP 44 [I x, I y, .pt 0 0 0 0] [boxF 1 true, boxC (ints a) true] (I (cmpI (a.getD x.toNat 0) (a.getD y.toNat 0))) :=
  rcs_of c0_ok (by kernel_rfl) (c44_key h0 h1 h2 h3 (by rw [unI_ints]; rfl))
theorem cmp_id_rcs {x y : Int} : RCs PP 44 [I x, I y, .pt 0 0 0 0] [boxN true] (I (cmpI x y)) :=
  rcs_of c0_ok (by kernel_rfl) (c44_id rfl)

/-- what the sorts compare with -/
def tabS (g : FuncId) (args : List V) (rows : Aev.Rows) : Option (List Prop × V) :=
  match g, args, rows with
  | 44, [.d (.int .i64 x), .d (.int .i64 y), .pt 0 0 0 0], [.live (.box [.fn 27 [.pt 1 0 0 0]] true), .live (.box [.d (.list es)] true)] =>
    some ([isInts es, 0 ≤ x ∧ x < es.length ∧ 0 ≤ y ∧ y < es.length], I (cmpI ((es.map unI).getD x.toNat 0) ((es.map unI).getD y.toNat 0)))
  | 44, [.d (.int .i64 x), .d (.int .i64 y), .pt 0 0 0 0], [.live (.box [.fn 28 []] true)] => some ([], I (cmpI x y))
  | _, _, _ => none
noncomputable def cS : SCfg := mk (fun _ => false) tabS
theorem cS_ok : COK cS.cfg := mk_ok (fun g args rows ps v h hp => by
  have h : tabS g args rows = some (ps, v) := h
  unfold tabS at h
  split at h
  · rename_i x y es _hq
    cases h
    obtain ⟨h1, ⟨h2, h3, h4, h5⟩, _⟩ := hp
    have := cmp_key_rcs (a := es.map unI) (x := x) (y := y) h2 (by rw [map_len]; exact h3) h4 (by rw [map_len]; exact h5)
    unfold isInts at h1
    rw [← h1] at this
    exact this
  · cases h; exact cmp_id_rcs
  · cases h)

end Go.Aev.M33
end
/- M33SortDefs -/
section
namespace Go.Aev.M33
set_option maxRecDepth 1000000
set_option linter.unusedVariables false
/-- the rows behind the data: of the closure by counts, of the closure by numbers -/
abbrev TK (a : List Int) : Aev.Rows := [boxF 2 false, boxC (ints a) true]
abbrev TN : Aev.Rows := [boxN false]
abbrev CC : V := .fn 44 [.pt 1 0 0 0]
noncomputable def td113o : List AItem := (nextOf (sTo cS {} (atLoop 1) 300 (start cS 113 [SL 0 [0], I 0, I 0, CC] (RW [0] :: TN)))).fr.todo
noncomputable def H113o (xs : List Int) (T : Aev.Rows) (lo hi i : Int) : AS := hd 113 td113o 53 [(0, SL 0 xs), (1, I lo), (2, I hi), (3, CC), (8, I i)] (RW xs :: T)
noncomputable def td113i : List AItem := (nextOf (sTo cS (gdr [(14,true)] [] []) (atLoop 5) 300 (H113o [0] TN 0 0 0))).fr.todo
/-- the inner loop: the slice's length is n -/
noncomputable def H113i (n : Nat) (es : List D) (T : Aev.Rows) (lo hi i j : Int) : AS := hd 113 td113i 53 [(0, .sl 0 1 0 n n false), (1, I lo), (2, I hi), (3, CC), (8, I i), (9, I j)] (.live (.dat 1 es false) :: T)
end Go.Aev.M33
end
/- M33InsK -/
section
namespace Go.Aev.M33
set_option maxRecDepth 1000000
set_option linter.unusedSimpArgs false
set_option linter.unusedVariables false
theorem insK_go {a : List Int} {xs : List Int} {lo hi : Int} {Q : V → Aev.Rows → Prop} (h1 : inInt (lo + 1)) (h : Ends c0 3 (H113o xs (TK a) lo hi (lo + 1)) Q) : Ends c0 3 (start cS 113 [SL 0 xs, I lo, I hi, CC] (RW xs :: (TK a))) Q :=
  Ends.cfg rfl (Ends.turn (c := cS) cS_ok (gds []) (atLoop 1) 300 [0, 1, 2] [0, 1, 2, 3, 8] (ps := [inInt (lo + (1 : Int))]) (by kernel_rfl) (by
    (try simp only [AllP, Int.toNat_natCast, ints_len, decide_eq_true_eq, decide_eq_false_iff_not, beq_eq_false_iff_ne, beq_iff_eq, bne_iff_ne, bne_eq_false_iff_eq, Bool.not_eq_true', Bool.not_eq_false', Int.not_lt, Int.not_le, gt_iff_lt, ge_iff_le, ne_eq, and_true, true_and, unI_ints, Nat.zero_add, List.length_set, Nat.le_refl])
    all_goals (repeat' (first | with_reducible assumption | with_reducible rfl | omega | with_reducible exact ints_get (by omega) | with_reducible apply And.intro | unfold inInt | with_reducible exact isInts_ints _))) (Ends.cfg rfl h))
theorem insK_end {a : List Int} {xs : List Int} {lo hi i : Int} {Q : V → Aev.Rows → Prop} (hk : hi ≤ i) (h : Q (.tup []) (RW xs :: (TK a))) : Ends c0 3 (H113o xs (TK a) lo hi i) Q :=
  Ends.cfg rfl (Ends.fin (c := cS) cS_ok (gds [(14,false)]) 300 (ps := [decide (i < hi) = false]) (by kernel_rfl) (by
    (try simp only [AllP, Int.toNat_natCast, ints_len, decide_eq_true_eq, decide_eq_false_iff_not, beq_eq_false_iff_ne, beq_iff_eq, bne_iff_ne, bne_eq_false_iff_eq, Bool.not_eq_true', Bool.not_eq_false', Int.not_lt, Int.not_le, gt_iff_lt, ge_iff_le, ne_eq, and_true, true_and, unI_ints, Nat.zero_add, List.length_set, Nat.le_refl])
    all_goals (repeat' (first | with_reducible assumption | with_reducible rfl | omega | with_reducible exact ints_get (by omega) | with_reducible apply And.intro | unfold inInt | with_reducible exact isInts_ints _))) h)
theorem insK_in {a : List Int} {xs : List Int} {lo hi i : Int} {Q : V → Aev.Rows → Prop} (hk : i < hi) (h : Ends c0 3 (H113i xs.length (ints xs) (TK a) lo hi i i) Q) : Ends c0 3 (H113o xs (TK a) lo hi i) Q :=
  Ends.cfg rfl (Ends.turn (c := cS) cS_ok (gds [(14,true)]) (atLoop 5) 300 [0, 1, 2] [0, 1, 2, 3, 8, 9] (ps := [decide (i < hi) = true]) (by kernel_rfl) (by
    (try simp only [AllP, Int.toNat_natCast, ints_len, decide_eq_true_eq, decide_eq_false_iff_not, beq_eq_false_iff_ne, beq_iff_eq, bne_iff_ne, bne_eq_false_iff_eq, Bool.not_eq_true', Bool.not_eq_false', Int.not_lt, Int.not_le, gt_iff_lt, ge_iff_le, ne_eq, and_true, true_and, unI_ints, Nat.zero_add, List.length_set, Nat.le_refl])
    all_goals (repeat' (first | with_reducible assumption | with_reducible rfl | omega | with_reducible exact ints_get (by omega) | with_reducible apply And.intro | unfold inInt | with_reducible exact isInts_ints _))) (Ends.cfg rfl h))
theorem insK_swap {a : List Int} {xs : List Int} {lo hi i j : Int} {Q : V → Aev.Rows → Prop} (hj : j < xs.length) (hlo : 0 ≤ lo) (hlj : lo < j) (hn : xs.length ≤ 1073741824) (hx : 0 ≤ xs.getD j.toNat 0 ∧ xs.getD j.toNat 0 < a.length) (hy : 0 ≤ xs.getD (j - 1).toNat 0 ∧ xs.getD (j - 1).toNat 0 < a.length) (hc : cmpI (a.getD (xs.getD j.toNat 0).toNat 0) (a.getD (xs.getD (j - 1).toNat 0).toNat 0) < 0) (h : Ends c0 3 (H113i xs.length (((ints xs).set (0 + j.toNat) (.int .i64 (xs.getD (0 + (j - 1).toNat) 0))).set (0 + (j - 1).toNat) (.int .i64 (xs.getD (0 + j.toNat) 0))) (TK a) lo hi i (j - 1)) Q) : Ends c0 3 (H113i xs.length (ints xs) (TK a) lo hi i j) Q :=
  Ends.cfg rfl (Ends.turn (c := cS) cS_ok (gdr [(21,true),(34,true)] [] [(0, el xs)]) (atLoop 5) 300 [0, 1, 2] [0, 1, 2, 3, 8, 9] (ps := [decide (j > lo) = true, decide (j > lo) = true, decide (j > lo) = true, decide (j > lo) = true, nat_lit 1 = nat_lit 1 ∧ (0 : Int) ≤ j ∧ j < (↑(List.length xs) : Int), decide (j > lo) = true, nat_lit 1 = nat_lit 1 ∧   (ints xs)[nat_lit 0 + Int.toNat j]? = some (D.int IntKind.i64 (List.getD xs (nat_lit 0 + Int.toNat j) (0 : Int))), decide (j > lo) = true, decide (j > lo) = true, decide (j > lo) = true, inInt (j - (1 : Int)), decide (j > lo) = true, nat_lit 1 = nat_lit 1 ∧ (0 : Int) ≤ j - (1 : Int) ∧ j - (1 : Int) < (↑(List.length xs) : Int), decide (j > lo) = true, nat_lit 1 = nat_lit 1 ∧   (ints xs)[nat_lit 0 + Int.toNat (j - (1 : Int))]? =     some (D.int IntKind.i64 (List.getD xs (nat_lit 0 + Int.toNat (j - (1 : Int))) (0 : Int))), decide (j > lo) = true, isInts (ints a), (0 : Int) ≤ List.getD xs (nat_lit 0 + Int.toNat j) (0 : Int) ∧   List.getD xs (nat_lit 0 + Int.toNat j) (0 : Int) < (↑(List.length (ints a)) : Int) ∧     (0 : Int) ≤ List.getD xs (nat_lit 0 + Int.toNat (j - (1 : Int))) (0 : Int) ∧       List.getD xs (nat_lit 0 + Int.toNat (j - (1 : Int))) (0 : Int) < (↑(List.length (ints a)) : Int), decide (j > lo) = true, decide (j > lo) = true, decide     (cmpI (List.getD (List.map unI (ints a)) (Int.toNat (List.getD xs (nat_lit 0 + Int.toNat j) (0 : Int))) (0 : Int))         (List.getD (List.map unI (ints a)) (Int.toNat (List.getD xs (nat_lit 0 + Int.toNat (j - (1 : Int))) (0 : Int)))           (0 : Int)) <       (0 : Int)) =   true, inInt (j - (1 : Int)), inInt (j - (1 : Int)), nat_lit 1 = nat_lit 1 ∧ (0 : Int) ≤ j - (1 : Int) ∧ j - (1 : Int) < (↑(List.length xs) : Int), nat_lit 1 = nat_lit 1 ∧   (ints xs)[nat_lit 0 + Int.toNat (j - (1 : Int))]? =     some (D.int IntKind.i64 (List.getD xs (nat_lit 0 + Int.toNat (j - (1 : Int))) (0 : Int))), nat_lit 1 = nat_lit 1 ∧ (0 : Int) ≤ j ∧ j < (↑(List.length xs) : Int), nat_lit 1 = nat_lit 1 ∧   (ints xs)[nat_lit 0 + Int.toNat j]? = some (D.int IntKind.i64 (List.getD xs (nat_lit 0 + Int.toNat j) (0 : Int))), nat_lit 1 = nat_lit 1 ∧ (0 : Int) ≤ j ∧ j < (↑(List.length xs) : Int), nat_lit 1 = nat_lit 1 ∧ nat_lit 0 < nat_lit 1 ∧ true = true, nat_lit 0 + Int.toNat j < List.length (ints xs), nat_lit 1 = nat_lit 1 ∧ nat_lit 0 = nat_lit 0 ∧ nat_lit 1 = nat_lit 1 ∧ true = true, nat_lit 1 = nat_lit 1 ∧ (0 : Int) ≤ j - (1 : Int) ∧ j - (1 : Int) < (↑(List.length xs) : Int), nat_lit 1 = nat_lit 1 ∧ nat_lit 0 < nat_lit 1 ∧ true = true, nat_lit 0 + Int.toNat (j - (1 : Int)) <   List.length     (List.set (ints xs) (nat_lit 0 + Int.toNat j)       (mkElem         (Ty.agg           {             desc :=               TypeInfo.desc                 { desc := TypeDesc.int IntKind.i64, str := "int", size := nat_lit 1, bytes := nat_lit 8,                   hasPointers := false, align := nat_lit 8, fieldAlign := nat_lit 8,                   zero := some (Value.int IntKind.i64 (0 : Int)), comparable := true, methods := #[] },             size := nat_lit 1, bytes := nat_lit 8, zero := Value.int IntKind.i64 (0 : Int) })         [Prod.snd (nat_lit 0, el xs) (nat_lit 0 + Int.toNat (j - (1 : Int)))])), nat_lit 1 = nat_lit 1 ∧ nat_lit 0 = nat_lit 0 ∧ nat_lit 1 = nat_lit 1 ∧ true = true, inInt (j - (1 : Int))]) (by kernel_rfl) (by
    (try simp only [AllP, Int.toNat_natCast, ints_len, decide_eq_true_eq, decide_eq_false_iff_not, beq_eq_false_iff_ne, beq_iff_eq, bne_iff_ne, bne_eq_false_iff_eq, Bool.not_eq_true', Bool.not_eq_false', Int.not_lt, Int.not_le, gt_iff_lt, ge_iff_le, ne_eq, and_true, true_and, unI_ints, Nat.zero_add, List.length_set, Nat.le_refl])
    all_goals (repeat' (first | with_reducible assumption | with_reducible rfl | omega | with_reducible exact ints_get (by omega) | with_reducible apply And.intro | unfold inInt | with_reducible exact isInts_ints _))) (Ends.cfg rfl h))
theorem insK_stay {a : List Int} {xs : List Int} {lo hi i j : Int} {Q : V → Aev.Rows → Prop} (hj : j < xs.length) (hlo : 0 ≤ lo) (hlj : lo < j) (hn : xs.length ≤ 1073741824) (hx : 0 ≤ xs.getD j.toNat 0 ∧ xs.getD j.toNat 0 < a.length) (hy : 0 ≤ xs.getD (j - 1).toNat 0 ∧ xs.getD (j - 1).toNat 0 < a.length) (hc : 0 ≤ cmpI (a.getD (xs.getD j.toNat 0).toNat 0) (a.getD (xs.getD (j - 1).toNat 0).toNat 0)) (hi1 : inInt (i + 1)) (h : Ends c0 3 (H113o xs (TK a) lo hi (i + 1)) Q) : Ends c0 3 (H113i xs.length (ints xs) (TK a) lo hi i j) Q :=
  Ends.cfg rfl (Ends.turn (c := cS) cS_ok (gdr [(21,true),(34,false)] [] [(0, el xs)]) (atLoop 1) 300 [0, 1, 2] [0, 1, 2, 3, 8] (ps := [decide (j > lo) = true, decide (j > lo) = true, decide (j > lo) = true, decide (j > lo) = true, nat_lit 1 = nat_lit 1 ∧ (0 : Int) ≤ j ∧ j < (↑(List.length xs) : Int), decide (j > lo) = true, nat_lit 1 = nat_lit 1 ∧   (ints xs)[nat_lit 0 + Int.toNat j]? = some (D.int IntKind.i64 (List.getD xs (nat_lit 0 + Int.toNat j) (0 : Int))), decide (j > lo) = true, decide (j > lo) = true, decide (j > lo) = true, inInt (j - (1 : Int)), decide (j > lo) = true, nat_lit 1 = nat_lit 1 ∧ (0 : Int) ≤ j - (1 : Int) ∧ j - (1 : Int) < (↑(List.length xs) : Int), decide (j > lo) = true, nat_lit 1 = nat_lit 1 ∧   (ints xs)[nat_lit 0 + Int.toNat (j - (1 : Int))]? =     some (D.int IntKind.i64 (List.getD xs (nat_lit 0 + Int.toNat (j - (1 : Int))) (0 : Int))), decide (j > lo) = true, isInts (ints a), (0 : Int) ≤ List.getD xs (nat_lit 0 + Int.toNat j) (0 : Int) ∧   List.getD xs (nat_lit 0 + Int.toNat j) (0 : Int) < (↑(List.length (ints a)) : Int) ∧     (0 : Int) ≤ List.getD xs (nat_lit 0 + Int.toNat (j - (1 : Int))) (0 : Int) ∧       List.getD xs (nat_lit 0 + Int.toNat (j - (1 : Int))) (0 : Int) < (↑(List.length (ints a)) : Int), decide (j > lo) = true, decide (j > lo) = true, decide     (cmpI (List.getD (List.map unI (ints a)) (Int.toNat (List.getD xs (nat_lit 0 + Int.toNat j) (0 : Int))) (0 : Int))         (List.getD (List.map unI (ints a)) (Int.toNat (List.getD xs (nat_lit 0 + Int.toNat (j - (1 : Int))) (0 : Int)))           (0 : Int)) <       (0 : Int)) =   false, inInt (i + (1 : Int))]) (by kernel_rfl) (by
    (try simp only [AllP, Int.toNat_natCast, ints_len, decide_eq_true_eq, decide_eq_false_iff_not, beq_eq_false_iff_ne, beq_iff_eq, bne_iff_ne, bne_eq_false_iff_eq, Bool.not_eq_true', Bool.not_eq_false', Int.not_lt, Int.not_le, gt_iff_lt, ge_iff_le, ne_eq, and_true, true_and, unI_ints, Nat.zero_add, List.length_set, Nat.le_refl])
    all_goals (repeat' (first | with_reducible assumption | with_reducible rfl | omega | with_reducible exact ints_get (by omega) | with_reducible apply And.intro | unfold inInt | with_reducible exact isInts_ints _))) (Ends.cfg rfl h))
theorem insK_bot {a : List Int} {xs : List Int} {lo hi i j : Int} {Q : V → Aev.Rows → Prop} (hlj : j ≤ lo) (hi1 : inInt (i + 1)) (h : Ends c0 3 (H113o xs (TK a) lo hi (i + 1)) Q) : Ends c0 3 (H113i xs.length (ints xs) (TK a) lo hi i j) Q :=
  Ends.cfg rfl (Ends.turn (c := cS) cS_ok (gdr [(21,false),(34,false)] [] []) (atLoop 1) 300 [0, 1, 2] [0, 1, 2, 3, 8] (ps := [decide (j > lo) = false, decide (j > lo) = false, decide (j > lo) = false, decide (j > lo) = false, decide (j > lo) = false, decide (j > lo) = false, decide (j > lo) = false, decide (j > lo) = false, decide (j > lo) = false, decide (j > lo) = false, decide (j > lo) = false, decide (j > lo) = false, decide (j > lo) = false, false = false, inInt (i + (1 : Int))]) (by kernel_rfl) (by
    (try simp only [AllP, Int.toNat_natCast, ints_len, decide_eq_true_eq, decide_eq_false_iff_not, beq_eq_false_iff_ne, beq_iff_eq, bne_iff_ne, bne_eq_false_iff_eq, Bool.not_eq_true', Bool.not_eq_false', Int.not_lt, Int.not_le, gt_iff_lt, ge_iff_le, ne_eq, and_true, true_and, unI_ints, Nat.zero_add, List.length_set, Nat.le_refl])
    all_goals (repeat' (first | with_reducible assumption | with_reducible rfl | omega | with_reducible exact ints_get (by omega) | with_reducible apply And.intro | unfold inInt | with_reducible exact isInts_ints _))) (Ends.cfg rfl h))
end Go.Aev.M33
end
/- M33InsN -/
section
namespace Go.Aev.M33
set_option maxRecDepth 1000000
set_option linter.unusedSimpArgs false
set_option linter.unusedVariables false
theorem insN_go {xs : List Int} {lo hi : Int} {Q : V → Aev.Rows → Prop} (h1 : inInt (lo + 1)) (h : Ends c0 2 (H113o xs TN lo hi (lo + 1)) Q) : Ends c0 2 (start cS 113 [SL 0 xs, I lo, I hi, CC] (RW xs :: TN)) Q :=
  Ends.cfg rfl (Ends.turn (c := cS) cS_ok (gds []) (atLoop 1) 300 [0, 1] [0, 1, 2, 3, 8] (ps := [inInt (lo + (1 : Int))]) (by kernel_rfl) (by
    (try simp only [AllP, Int.toNat_natCast, ints_len, decide_eq_true_eq, decide_eq_false_iff_not, beq_eq_false_iff_ne, beq_iff_eq, bne_iff_ne, bne_eq_false_iff_eq, Bool.not_eq_true', Bool.not_eq_false', Int.not_lt, Int.not_le, gt_iff_lt, ge_iff_le, ne_eq, and_true, true_and, unI_ints, Nat.zero_add, List.length_set, Nat.le_refl])
    all_goals (repeat' (first | with_reducible assumption | with_reducible rfl | omega | with_reducible exact ints_get (by omega) | with_reducible apply And.intro | unfold inInt | with_reducible exact isInts_ints _))) (Ends.cfg rfl h))
theorem insN_end {xs : List Int} {lo hi i : Int} {Q : V → Aev.Rows → Prop} (hk : hi ≤ i) (h : Q (.tup []) (RW xs :: TN)) : Ends c0 2 (H113o xs TN lo hi i) Q :=
  Ends.cfg rfl (Ends.fin (c := cS) cS_ok (gds [(14,false)]) 300 (ps := [decide (i < hi) = false]) (by kernel_rfl) (by
    (try simp only [AllP, Int.toNat_natCast, ints_len, decide_eq_true_eq, decide_eq_false_iff_not, beq_eq_false_iff_ne, beq_iff_eq, bne_iff_ne, bne_eq_false_iff_eq, Bool.not_eq_true', Bool.not_eq_false', Int.not_lt, Int.not_le, gt_iff_lt, ge_iff_le, ne_eq, and_true, true_and, unI_ints, Nat.zero_add, List.length_set, Nat.le_refl])
    all_goals (repeat' (first | with_reducible assumption | with_reducible rfl | omega | with_reducible exact ints_get (by omega) | with_reducible apply And.intro | unfold inInt | with_reducible exact isInts_ints _))) h)
theorem insN_in {xs : List Int} {lo hi i : Int} {Q : V → Aev.Rows → Prop} (hk : i < hi) (h : Ends c0 2 (H113i xs.length (ints xs) TN lo hi i i) Q) : Ends c0 2 (H113o xs TN lo hi i) Q :=
  Ends.cfg rfl (Ends.turn (c := cS) cS_ok (gds [(14,true)]) (atLoop 5) 300 [0, 1] [0, 1, 2, 3, 8, 9] (ps := [decide (i < hi) = true]) (by kernel_rfl) (by
    (try simp only [AllP, Int.toNat_natCast, ints_len, decide_eq_true_eq, decide_eq_false_iff_not, beq_eq_false_iff_ne, beq_iff_eq, bne_iff_ne, bne_eq_false_iff_eq, Bool.not_eq_true', Bool.not_eq_false', Int.not_lt, Int.not_le, gt_iff_lt, ge_iff_le, ne_eq, and_true, true_and, unI_ints, Nat.zero_add, List.length_set, Nat.le_refl])
    all_goals (repeat' (first | with_reducible assumption | with_reducible rfl | omega | with_reducible exact ints_get (by omega) | with_reducible apply And.intro | unfold inInt | with_reducible exact isInts_ints _))) (Ends.cfg rfl h))
theorem insN_swap {xs : List Int} {lo hi i j : Int} {Q : V → Aev.Rows → Prop} (hj : j < xs.length) (hlo : 0 ≤ lo) (hlj : lo < j) (hn : xs.length ≤ 1073741824) (hc : cmpI (xs.getD j.toNat 0) (xs.getD (j - 1).toNat 0) < 0) (h : Ends c0 2 (H113i xs.length (((ints xs).set (0 + j.toNat) (.int .i64 (xs.getD (0 + (j - 1).toNat) 0))).set (0 + (j - 1).toNat) (.int .i64 (xs.getD (0 + j.toNat) 0))) TN lo hi i (j - 1)) Q) : Ends c0 2 (H113i xs.length (ints xs) TN lo hi i j) Q :=
  Ends.cfg rfl (Ends.turn (c := cS) cS_ok (gdr [(21,true),(34,true)] [] [(0, el xs)]) (atLoop 5) 300 [0, 1] [0, 1, 2, 3, 8, 9] (ps := [decide (j > lo) = true, decide (j > lo) = true, decide (j > lo) = true, decide (j > lo) = true, nat_lit 1 = nat_lit 1 ∧ (0 : Int) ≤ j ∧ j < (↑(List.length xs) : Int), decide (j > lo) = true, nat_lit 1 = nat_lit 1 ∧   (ints xs)[nat_lit 0 + Int.toNat j]? = some (D.int IntKind.i64 (List.getD xs (nat_lit 0 + Int.toNat j) (0 : Int))), decide (j > lo) = true, decide (j > lo) = true, decide (j > lo) = true, inInt (j - (1 : Int)), decide (j > lo) = true, nat_lit 1 = nat_lit 1 ∧ (0 : Int) ≤ j - (1 : Int) ∧ j - (1 : Int) < (↑(List.length xs) : Int), decide (j > lo) = true, nat_lit 1 = nat_lit 1 ∧   (ints xs)[nat_lit 0 + Int.toNat (j - (1 : Int))]? =     some (D.int IntKind.i64 (List.getD xs (nat_lit 0 + Int.toNat (j - (1 : Int))) (0 : Int))), decide (j > lo) = true, decide (j > lo) = true, decide (j > lo) = true, decide     (cmpI (List.getD xs (nat_lit 0 + Int.toNat j) (0 : Int))         (List.getD xs (nat_lit 0 + Int.toNat (j - (1 : Int))) (0 : Int)) <       (0 : Int)) =   true, inInt (j - (1 : Int)), inInt (j - (1 : Int)), nat_lit 1 = nat_lit 1 ∧ (0 : Int) ≤ j - (1 : Int) ∧ j - (1 : Int) < (↑(List.length xs) : Int), nat_lit 1 = nat_lit 1 ∧   (ints xs)[nat_lit 0 + Int.toNat (j - (1 : Int))]? =     some (D.int IntKind.i64 (List.getD xs (nat_lit 0 + Int.toNat (j - (1 : Int))) (0 : Int))), nat_lit 1 = nat_lit 1 ∧ (0 : Int) ≤ j ∧ j < (↑(List.length xs) : Int), nat_lit 1 = nat_lit 1 ∧   (ints xs)[nat_lit 0 + Int.toNat j]? = some (D.int IntKind.i64 (List.getD xs (nat_lit 0 + Int.toNat j) (0 : Int))), nat_lit 1 = nat_lit 1 ∧ (0 : Int) ≤ j ∧ j < (↑(List.length xs) : Int), nat_lit 1 = nat_lit 1 ∧ nat_lit 0 < nat_lit 1 ∧ true = true, nat_lit 0 + Int.toNat j < List.length (ints xs), nat_lit 1 = nat_lit 1 ∧ nat_lit 0 = nat_lit 0 ∧ nat_lit 1 = nat_lit 1 ∧ true = true, nat_lit 1 = nat_lit 1 ∧ (0 : Int) ≤ j - (1 : Int) ∧ j - (1 : Int) < (↑(List.length xs) : Int), nat_lit 1 = nat_lit 1 ∧ nat_lit 0 < nat_lit 1 ∧ true = true, nat_lit 0 + Int.toNat (j - (1 : Int)) <   List.length     (List.set (ints xs) (nat_lit 0 + Int.toNat j)       (mkElem         (Ty.agg           {             desc :=               TypeInfo.desc                 { desc := TypeDesc.int IntKind.i64, str := "int", size := nat_lit 1, bytes := nat_lit 8,                   hasPointers := false, align := nat_lit 8, fieldAlign := nat_lit 8,                   zero := some (Value.int IntKind.i64 (0 : Int)), comparable := true, methods := #[] },             size := nat_lit 1, bytes := nat_lit 8, zero := Value.int IntKind.i64 (0 : Int) })         [Prod.snd (nat_lit 0, el xs) (nat_lit 0 + Int.toNat (j - (1 : Int)))])), nat_lit 1 = nat_lit 1 ∧ nat_lit 0 = nat_lit 0 ∧ nat_lit 1 = nat_lit 1 ∧ true = true, inInt (j - (1 : Int))]) (by kernel_rfl) (by
    (try simp only [AllP, Int.toNat_natCast, ints_len, decide_eq_true_eq, decide_eq_false_iff_not, beq_eq_false_iff_ne, beq_iff_eq, bne_iff_ne, bne_eq_false_iff_eq, Bool.not_eq_true', Bool.not_eq_false', Int.not_lt, Int.not_le, gt_iff_lt, ge_iff_le, ne_eq, and_true, true_and, unI_ints, Nat.zero_add, List.length_set, Nat.le_refl])
    all_goals (repeat' (first | with_reducible assumption | with_reducible rfl | omega | with_reducible exact ints_get (by omega) | with_reducible apply And.intro | unfold inInt | with_reducible exact isInts_ints _))) (Ends.cfg rfl h))
theorem insN_stay {xs : List Int} {lo hi i j : Int} {Q : V → Aev.Rows → Prop} (hj : j < xs.length) (hlo : 0 ≤ lo) (hlj : lo < j) (hn : xs.length ≤ 1073741824) (hc : 0 ≤ cmpI (xs.getD j.toNat 0) (xs.getD (j - 1).toNat 0)) (hi1 : inInt (i + 1)) (h : Ends c0 2 (H113o xs TN lo hi (i + 1)) Q) : Ends c0 2 (H113i xs.length (ints xs) TN lo hi i j) Q :=
  Ends.cfg rfl (Ends.turn (c := cS) cS_ok (gdr [(21,true),(34,false)] [] [(0, el xs)]) (atLoop 1) 300 [0, 1] [0, 1, 2, 3, 8] (ps := [decide (j > lo) = true, decide (j > lo) = true, decide (j > lo) = true, decide (j > lo) = true, nat_lit 1 = nat_lit 1 ∧ (0 : Int) ≤ j ∧ j < (↑(List.length xs) : Int), decide (j > lo) = true, nat_lit 1 = nat_lit 1 ∧   (ints xs)[nat_lit 0 + Int.toNat j]? = some (D.int IntKind.i64 (List.getD xs (nat_lit 0 + Int.toNat j) (0 : Int))), decide (j > lo) = true, decide (j > lo) = true, decide (j > lo) = true, inInt (j - (1 : Int)), decide (j > lo) = true, nat_lit 1 = nat_lit 1 ∧ (0 : Int) ≤ j - (1 : Int) ∧ j - (1 : Int) < (↑(List.length xs) : Int), decide (j > lo) = true, nat_lit 1 = nat_lit 1 ∧   (ints xs)[nat_lit 0 + Int.toNat (j - (1 : Int))]? =     some (D.int IntKind.i64 (List.getD xs (nat_lit 0 + Int.toNat (j - (1 : Int))) (0 : Int))), decide (j > lo) = true, decide (j > lo) = true, decide (j > lo) = true, decide     (cmpI (List.getD xs (nat_lit 0 + Int.toNat j) (0 : Int))         (List.getD xs (nat_lit 0 + Int.toNat (j - (1 : Int))) (0 : Int)) <       (0 : Int)) =   false, inInt (i + (1 : Int))]) (by kernel_rfl) (by
    (try simp only [AllP, Int.toNat_natCast, ints_len, decide_eq_true_eq, decide_eq_false_iff_not, beq_eq_false_iff_ne, beq_iff_eq, bne_iff_ne, bne_eq_false_iff_eq, Bool.not_eq_true', Bool.not_eq_false', Int.not_lt, Int.not_le, gt_iff_lt, ge_iff_le, ne_eq, and_true, true_and, unI_ints, Nat.zero_add, List.length_set, Nat.le_refl])
    all_goals (repeat' (first | with_reducible assumption | with_reducible rfl | omega | with_reducible exact ints_get (by omega) | with_reducible apply And.intro | unfold inInt | with_reducible exact isInts_ints _))) (Ends.cfg rfl h))
theorem insN_bot {xs : List Int} {lo hi i j : Int} {Q : V → Aev.Rows → Prop} (hlj : j ≤ lo) (hi1 : inInt (i + 1)) (h : Ends c0 2 (H113o xs TN lo hi (i + 1)) Q) : Ends c0 2 (H113i xs.length (ints xs) TN lo hi i j) Q :=
  Ends.cfg rfl (Ends.turn (c := cS) cS_ok (gdr [(21,false),(34,false)] [] []) (atLoop 1) 300 [0, 1] [0, 1, 2, 3, 8] (ps := [decide (j > lo) = false, decide (j > lo) = false, decide (j > lo) = false, decide (j > lo) = false, decide (j > lo) = false, decide (j > lo) = false, decide (j > lo) = false, decide (j > lo) = false, decide (j > lo) = false, decide (j > lo) = false, decide (j > lo) = false, decide (j > lo) = false, decide (j > lo) = false, false = false, inInt (i + (1 : Int))]) (by kernel_rfl) (by
    (try simp only [AllP, Int.toNat_natCast, ints_len, decide_eq_true_eq, decide_eq_false_iff_not, beq_eq_false_iff_ne, beq_iff_eq, bne_iff_ne, bne_eq_false_iff_eq, Bool.not_eq_true', Bool.not_eq_false', Int.not_lt, Int.not_le, gt_iff_lt, ge_iff_le, ne_eq, and_true, true_and, unI_ints, Nat.zero_add, List.length_set, Nat.le_refl])
    all_goals (repeat' (first | with_reducible assumption | with_reducible rfl | omega | with_reducible exact ints_get (by omega) | with_reducible apply And.intro | unfold inInt | with_reducible exact isInts_ints _))) (Ends.cfg rfl h))
end Go.Aev.M33
end
/- M33Sort2Defs -/
section
namespace Go.Aev.M33
set_option maxRecDepth 1000000
set_option linter.unusedVariables false
theorem ints_set (l : List Int) (i : Nat) (x : Int) : (ints l).set i (.int .i64 x) = ints (l.set i x) := by simp [ints, List.map_set]
noncomputable def td182 : List AItem := (nextOf (sTo cS {} (atLoop 1) 300 (start cS 182 [SL 0 [0], I 0, I 0, I 0, CC] (RW [0] :: TN)))).fr.todo
noncomputable def H182 (n : Nat) (es : List D) (T : Aev.Rows) (a b k i : Int) : AS := hd 182 td182 38 [(0, .sl 0 1 0 n n false), (1, I a), (2, I b), (3, I k), (10, I i)] (.live (.dat 1 es false) :: T)
noncomputable def td161 : List AItem := (nextOf (sTo cS {} (atLoop 2) 300 (start cS 161 [SL 0 [0], I 0, I 0, I 0, CC] (RW [0] :: TN)))).fr.todo
/-- rotate at its loop: i and j are what is left of the two blocks -/
noncomputable def H161 (n : Nat) (xs : List Int) (T : Aev.Rows) (m i j : Int) : AS := hd 161 td161 58 [(0, .sl 0 1 0 n n false), (2, I m), (4, CC), (10, I i), (11, I j)] (RW xs :: T)

/-- a function that turns the first row's numbers -/
def SortDoes (g : FuncId) (k : Nat) (args : List V) (T : Aev.Rows) (xs : List Int) (P : List Int → Prop) : Prop :=
  Does PP g k (SL 0 xs :: (args ++ [CC])) (RW xs :: T) fun v rows => ∃ xs', xs'.length = xs.length ∧ P xs' ∧ v = .tup [] ∧ rows = RW xs' :: T

/-- behind such a call -/
def afterS (s : AS) (rs : List Nat) (rows : Aev.Rows) : AS := (backAt s rs (.tup []) rows).getD s

theorem Ends.callS {c : SCfg} (hc : COK c.cfg) (hP : c.P = PP) {k : Nat} {s : AS} {Q : V → Aev.Rows → Prop} {g : FuncId} {args : List V} {T : Aev.Rows} {xs : List Int} {rs : List Nat} {P : List Int → Prop}
    (hat : callAt c.cfg s = some (g, SL 0 xs :: (args ++ [CC]), RW xs :: T, rs)) (hd : SortDoes g rs.length args T xs P) (hb : ∀ xs' : List Int, (backAt s rs (.tup []) (RW xs' :: T)).isSome = true)
    (h : ∀ xs' : List Int, xs'.length = xs.length → P xs' → Ends c k (afterS s rs (RW xs' :: T)) Q) : Ends c k s Q := by
  refine Ends.callW hc hat (R := fun v rows => ∃ xs' : List Int, xs'.length = xs.length ∧ P xs' ∧ v = .tup [] ∧ rows = RW xs' :: T) (by rw [hP]; exact hd) ?_
  rintro v rows ⟨xs', h1, h2, rfl, rfl⟩
  obtain ⟨s', hs⟩ := Option.isSome_iff_exists.1 (hb xs')
  have := h xs' h1 h2
  unfold afterS at this
  rw [hs] at this
  exact ⟨s', hs, this⟩
end Go.Aev.M33
end
/- M33SortPlain2 -/
section
namespace Go.Aev.M33
open List
set_option linter.unusedVariables false
def kyK (cn : List Int) (x : Int) : Int := cn.getD x.toNat 0
def kyN (x : Int) : Int := x
theorem cmpI_lt {x y : Int} : cmpI x y < 0 ↔ x < y := by unfold cmpI; split <;> (try split) <;> omega
theorem cmpI_ge {x y : Int} : 0 ≤ cmpI x y ↔ y ≤ x := by unfold cmpI; split <;> (try split) <;> omega
theorem nth_mem {xs : List Int} {j : Int} (h0 : 0 ≤ j) (h1 : j < xs.length) : nth xs j ∈ xs := by
  unfold nth; rw [List.getD_eq_getElem?_getD, List.getElem?_eq_getElem (by omega)]; exact List.getElem_mem _
theorem nth_all {xs : List Int} {P : Int → Prop} (h : ∀ x ∈ xs, P x) {j : Int} (h0 : 0 ≤ j) (h1 : j < xs.length) : P (nth xs j) := h _ (nth_mem h0 h1)
theorem all_perm {xs ys : List Int} {P : Int → Prop} (hp : ys ~ xs) (h : ∀ x ∈ xs, P x) : ∀ x ∈ ys, P x := fun x hx => h x (hp.mem_iff.1 hx)
theorem ints_sw {xs : List Int} {i j : Int} : ((ints xs).set (0 + i.toNat) (.int .i64 (xs.getD (0 + j.toNat) 0))).set (0 + j.toNat) (.int .i64 (xs.getD (0 + i.toNat) 0)) = ints (sw xs i j) := by
  rw [Nat.zero_add, Nat.zero_add, ints_set, ints_set]; rfl
end Go.Aev.M33
end
/- M33SwapK -/
section
namespace Go.Aev.M33
set_option maxRecDepth 1000000
set_option linter.unusedSimpArgs false
set_option linter.unusedVariables false
theorem swpK_go {cn : List Int} {xs : List Int} {a b n : Int} {Q : V → Aev.Rows → Prop}  (h : Ends c0 3 (H182 xs.length (ints xs) (TK cn) a b n 0) Q) : Ends c0 3 (start cS 182 [SL 0 xs, I a, I b, I n, CC] (RW xs :: (TK cn))) Q :=
  Ends.cfg rfl (Ends.turn (c := cS) cS_ok (gds []) (atLoop 1) 300 [0, 1, 2] [0, 1, 2, 3, 10] (ps := []) (by kernel_rfl) (by
    (try simp only [AllP, Int.toNat_natCast, ints_len, decide_eq_true_eq, decide_eq_false_iff_not, beq_eq_false_iff_ne, beq_iff_eq, bne_iff_ne, bne_eq_false_iff_eq, Bool.not_eq_true', Bool.not_eq_false', Int.not_lt, Int.not_le, gt_iff_lt, ge_iff_le, ne_eq, and_true, true_and, unI_ints, Nat.zero_add, List.length_set, Nat.le_refl])
    all_goals (repeat' (first | with_reducible assumption | with_reducible rfl | omega | with_reducible exact ints_get (by omega) | with_reducible apply And.intro | unfold inInt | with_reducible exact isInts_ints _))) (Ends.cfg rfl h))
theorem swpK_end {cn : List Int} {xs : List Int} {a b n i : Int} {Q : V → Aev.Rows → Prop} (hk : n ≤ i) (h : Q (.tup []) (RW xs :: (TK cn))) : Ends c0 3 (H182 xs.length (ints xs) (TK cn) a b n i) Q :=
  Ends.cfg rfl (Ends.fin (c := cS) cS_ok (gds [(13,false)]) 300 (ps := [decide (i < n) = false]) (by kernel_rfl) (by
    (try simp only [AllP, Int.toNat_natCast, ints_len, decide_eq_true_eq, decide_eq_false_iff_not, beq_eq_false_iff_ne, beq_iff_eq, bne_iff_ne, bne_eq_false_iff_eq, Bool.not_eq_true', Bool.not_eq_false', Int.not_lt, Int.not_le, gt_iff_lt, ge_iff_le, ne_eq, and_true, true_and, unI_ints, Nat.zero_add, List.length_set, Nat.le_refl])
    all_goals (repeat' (first | with_reducible assumption | with_reducible rfl | omega | with_reducible exact ints_get (by omega) | with_reducible apply And.intro | unfold inInt | with_reducible exact isInts_ints _))) h)
theorem swpK_turn {cn : List Int} {xs : List Int} {a b n i : Int} {Q : V → Aev.Rows → Prop} (hk : i < n) (h0 : 0 ≤ i) (h1 : 0 ≤ a) (h2 : 0 ≤ b) (h3 : a + i < xs.length) (h4 : b + i < xs.length) (hn : xs.length ≤ 1073741824) (h : Ends c0 3 (H182 xs.length (((ints xs).set (0 + (a + i).toNat) (.int .i64 (xs.getD (0 + (b + i).toNat) 0))).set (0 + (b + i).toNat) (.int .i64 (xs.getD (0 + (a + i).toNat) 0))) (TK cn) a b n (i + 1)) Q) : Ends c0 3 (H182 xs.length (ints xs) (TK cn) a b n i) Q :=
  Ends.cfg rfl (Ends.turn (c := cS) cS_ok (gdr [(13,true)] [] [(0, el xs)]) (atLoop 1) 300 [0, 1, 2] [0, 1, 2, 3, 10] (ps := [decide (i < n) = true, inInt (a + i), inInt (b + i), inInt (b + i), nat_lit 1 = nat_lit 1 ∧ (0 : Int) ≤ b + i ∧ b + i < (↑(List.length xs) : Int), nat_lit 1 = nat_lit 1 ∧   (ints xs)[nat_lit 0 + Int.toNat (b + i)]? =     some (D.int IntKind.i64 (List.getD xs (nat_lit 0 + Int.toNat (b + i)) (0 : Int))), inInt (a + i), nat_lit 1 = nat_lit 1 ∧ (0 : Int) ≤ a + i ∧ a + i < (↑(List.length xs) : Int), nat_lit 1 = nat_lit 1 ∧   (ints xs)[nat_lit 0 + Int.toNat (a + i)]? =     some (D.int IntKind.i64 (List.getD xs (nat_lit 0 + Int.toNat (a + i)) (0 : Int))), nat_lit 1 = nat_lit 1 ∧ (0 : Int) ≤ a + i ∧ a + i < (↑(List.length xs) : Int), nat_lit 1 = nat_lit 1 ∧ nat_lit 0 < nat_lit 1 ∧ true = true, nat_lit 0 + Int.toNat (a + i) < List.length (ints xs), nat_lit 1 = nat_lit 1 ∧ nat_lit 0 = nat_lit 0 ∧ nat_lit 1 = nat_lit 1 ∧ true = true, nat_lit 1 = nat_lit 1 ∧ (0 : Int) ≤ b + i ∧ b + i < (↑(List.length xs) : Int), nat_lit 1 = nat_lit 1 ∧ nat_lit 0 < nat_lit 1 ∧ true = true, nat_lit 0 + Int.toNat (b + i) <   List.length     (List.set (ints xs) (nat_lit 0 + Int.toNat (a + i))       (mkElem         (Ty.agg           {             desc :=               TypeInfo.desc                 { desc := TypeDesc.int IntKind.i64, str := "int", size := nat_lit 1, bytes := nat_lit 8,                   hasPointers := false, align := nat_lit 8, fieldAlign := nat_lit 8,                   zero := some (Value.int IntKind.i64 (0 : Int)), comparable := true, methods := #[] },             size := nat_lit 1, bytes := nat_lit 8, zero := Value.int IntKind.i64 (0 : Int) })         [Prod.snd (nat_lit 0, el xs) (nat_lit 0 + Int.toNat (b + i))])), nat_lit 1 = nat_lit 1 ∧ nat_lit 0 = nat_lit 0 ∧ nat_lit 1 = nat_lit 1 ∧ true = true, inInt (i + (1 : Int))]) (by kernel_rfl) (by
    (try simp only [AllP, Int.toNat_natCast, ints_len, decide_eq_true_eq, decide_eq_false_iff_not, beq_eq_false_iff_ne, beq_iff_eq, bne_iff_ne, bne_eq_false_iff_eq, Bool.not_eq_true', Bool.not_eq_false', Int.not_lt, Int.not_le, gt_iff_lt, ge_iff_le, ne_eq, and_true, true_and, unI_ints, Nat.zero_add, List.length_set, Nat.le_refl])
    all_goals (repeat' (first | with_reducible assumption | with_reducible rfl | omega | with_reducible exact ints_get (by omega) | with_reducible apply And.intro | unfold inInt | with_reducible exact isInts_ints _))) (Ends.cfg rfl h))
theorem rotK_go {cn : List Int} {xs : List Int} {a m b : Int} {Q : V → Aev.Rows → Prop} (h1 : inInt (m - a)) (h2 : inInt (b - m)) (h : Ends c0 3 (H161 xs.length xs (TK cn) m (m - a) (b - m)) Q) : Ends c0 3 (start cS 161 [SL 0 xs, I a, I m, I b, CC] (RW xs :: (TK cn))) Q :=
  Ends.cfg rfl (Ends.turn (c := cS) cS_ok (gds []) (atLoop 2) 300 [0, 1, 2] [0, 2, 4, 10, 11] (ps := [inInt (m - a), inInt (b - m)]) (by kernel_rfl) (by
    (try simp only [AllP, Int.toNat_natCast, ints_len, decide_eq_true_eq, decide_eq_false_iff_not, beq_eq_false_iff_ne, beq_iff_eq, bne_iff_ne, bne_eq_false_iff_eq, Bool.not_eq_true', Bool.not_eq_false', Int.not_lt, Int.not_le, gt_iff_lt, ge_iff_le, ne_eq, and_true, true_and, unI_ints, Nat.zero_add, List.length_set, Nat.le_refl])
    all_goals (repeat' (first | with_reducible assumption | with_reducible rfl | omega | with_reducible exact ints_get (by omega) | with_reducible apply And.intro | unfold inInt | with_reducible exact isInts_ints _))) (Ends.cfg rfl h))
theorem rotK_left {cn : List Int} {xs : List Int} {m i j : Int} {P : List Int → Prop} {Q : V → Aev.Rows → Prop} (h1 : j < i) (h2 : inInt (m - i)) (h3 : inInt (i - j)) (hd : SortDoes 182 3 [I (m - i), I m, I j] (TK cn) (xs) (P)) (h : ∀ xs' : List Int, xs'.length = (xs).length → (P) xs' → Ends c0 3 (H161 xs.length xs' (TK cn) m (i - j) j) Q) : Ends c0 3 (H161 xs.length xs (TK cn) m i j) Q :=
  Ends.cfg rfl (Ends.to (c := cS) cS_ok (gds [(20,true),(23,true)]) (atOp 8 6) 300 (s' := (nextOf (sTo cS (gds [(20,true),(23,true)]) (atOp 8 6) 300 (H161 xs.length xs (TK cn) m i j)))) (ps := [(i != j) = true, decide (i > j) = true, inInt (m - i)]) (by kernel_rfl) (by
    (try simp only [AllP, Int.toNat_natCast, ints_len, decide_eq_true_eq, decide_eq_false_iff_not, beq_eq_false_iff_ne, beq_iff_eq, bne_iff_ne, bne_eq_false_iff_eq, Bool.not_eq_true', Bool.not_eq_false', Int.not_lt, Int.not_le, gt_iff_lt, ge_iff_le, ne_eq, and_true, true_and, unI_ints, Nat.zero_add, List.length_set, Nat.le_refl])
    all_goals (repeat' (first | with_reducible assumption | with_reducible rfl | omega | with_reducible exact ints_get (by omega) | with_reducible apply And.intro | unfold inInt | with_reducible exact isInts_ints _)))
    (Ends.callS (args := [I (m - i), I m, I j]) (T := (TK cn)) (xs := xs) (rs := [0, 1, 2]) cS_ok rfl (by kernel_rfl) hd (fun xs' => by kernel_rfl) fun xs' hl' hp' =>
    Ends.turn (c := cS) cS_ok (gds []) (atLoop 2) 300 [0, 1, 2] [0, 2, 4, 10, 11] (ps := [inInt (i - j)]) (by kernel_rfl) (by
    (try simp only [AllP, Int.toNat_natCast, ints_len, decide_eq_true_eq, decide_eq_false_iff_not, beq_eq_false_iff_ne, beq_iff_eq, bne_iff_ne, bne_eq_false_iff_eq, Bool.not_eq_true', Bool.not_eq_false', Int.not_lt, Int.not_le, gt_iff_lt, ge_iff_le, ne_eq, and_true, true_and, unI_ints, Nat.zero_add, List.length_set, Nat.le_refl])
    all_goals (repeat' (first | with_reducible assumption | with_reducible rfl | omega | with_reducible exact ints_get (by omega) | with_reducible apply And.intro | unfold inInt | with_reducible exact isInts_ints _))) (Ends.cfg rfl (h xs' hl' hp'))))
theorem rotK_right {cn : List Int} {xs : List Int} {m i j : Int} {P : List Int → Prop} {Q : V → Aev.Rows → Prop} (h1 : i < j) (h2 : inInt (m - i)) (h3 : inInt (m + j)) (h4 : inInt (m + j - i)) (h5 : inInt (j - i)) (hd : SortDoes 182 3 [I (m - i), I (m + j - i), I i] (TK cn) (xs) (P)) (h : ∀ xs' : List Int, xs'.length = (xs).length → (P) xs' → Ends c0 3 (H161 xs.length xs' (TK cn) m i (j - i)) Q) : Ends c0 3 (H161 xs.length xs (TK cn) m i j) Q :=
  Ends.cfg rfl (Ends.to (c := cS) cS_ok (gds [(20,true),(23,false)]) (atOp 12 10) 300 (s' := (nextOf (sTo cS (gds [(20,true),(23,false)]) (atOp 12 10) 300 (H161 xs.length xs (TK cn) m i j)))) (ps := [(i != j) = true, decide (i > j) = false, inInt (m - i), inInt (m + j), inInt (m + j - i)]) (by kernel_rfl) (by
    (try simp only [AllP, Int.toNat_natCast, ints_len, decide_eq_true_eq, decide_eq_false_iff_not, beq_eq_false_iff_ne, beq_iff_eq, bne_iff_ne, bne_eq_false_iff_eq, Bool.not_eq_true', Bool.not_eq_false', Int.not_lt, Int.not_le, gt_iff_lt, ge_iff_le, ne_eq, and_true, true_and, unI_ints, Nat.zero_add, List.length_set, Nat.le_refl])
    all_goals (repeat' (first | with_reducible assumption | with_reducible rfl | omega | with_reducible exact ints_get (by omega) | with_reducible apply And.intro | unfold inInt | with_reducible exact isInts_ints _)))
    (Ends.callS (args := [I (m - i), I (m + j - i), I i]) (T := (TK cn)) (xs := xs) (rs := [0, 1, 2]) cS_ok rfl (by kernel_rfl) hd (fun xs' => by kernel_rfl) fun xs' hl' hp' =>
    Ends.turn (c := cS) cS_ok (gds []) (atLoop 2) 300 [0, 1, 2] [0, 2, 4, 10, 11] (ps := [inInt (j - i)]) (by kernel_rfl) (by
    (try simp only [AllP, Int.toNat_natCast, ints_len, decide_eq_true_eq, decide_eq_false_iff_not, beq_eq_false_iff_ne, beq_iff_eq, bne_iff_ne, bne_eq_false_iff_eq, Bool.not_eq_true', Bool.not_eq_false', Int.not_lt, Int.not_le, gt_iff_lt, ge_iff_le, ne_eq, and_true, true_and, unI_ints, Nat.zero_add, List.length_set, Nat.le_refl])
    all_goals (repeat' (first | with_reducible assumption | with_reducible rfl | omega | with_reducible exact ints_get (by omega) | with_reducible apply And.intro | unfold inInt | with_reducible exact isInts_ints _))) (Ends.cfg rfl (h xs' hl' hp'))))
theorem rotK_end {cn : List Int} {xs : List Int} {m i j : Int} {P : List Int → Prop} {Q : V → Aev.Rows → Prop} (h1 : i = j) (h2 : inInt (m - i)) (hd : SortDoes 182 3 [I (m - i), I m, I i] (TK cn) (xs) (P)) (h : ∀ xs' : List Int, xs'.length = (xs).length → (P) xs' → Q (.tup []) (RW xs' :: (TK cn))) : Ends c0 3 (H161 xs.length xs (TK cn) m i j) Q :=
  Ends.cfg rfl (Ends.to (c := cS) cS_ok (gds [(20,false)]) (atOp 8 6) 300 (s' := (nextOf (sTo cS (gds [(20,false)]) (atOp 8 6) 300 (H161 xs.length xs (TK cn) m i j)))) (ps := [(i != j) = false, inInt (m - i)]) (by kernel_rfl) (by
    (try simp only [AllP, Int.toNat_natCast, ints_len, decide_eq_true_eq, decide_eq_false_iff_not, beq_eq_false_iff_ne, beq_iff_eq, bne_iff_ne, bne_eq_false_iff_eq, Bool.not_eq_true', Bool.not_eq_false', Int.not_lt, Int.not_le, gt_iff_lt, ge_iff_le, ne_eq, and_true, true_and, unI_ints, Nat.zero_add, List.length_set, Nat.le_refl])
    all_goals (repeat' (first | with_reducible assumption | with_reducible rfl | omega | with_reducible exact ints_get (by omega) | with_reducible apply And.intro | unfold inInt | with_reducible exact isInts_ints _)))
    (Ends.callS (args := [I (m - i), I m, I i]) (T := (TK cn)) (xs := xs) (rs := [0, 1, 2]) cS_ok rfl (by kernel_rfl) hd (fun xs' => by kernel_rfl) fun xs' hl' hp' =>
    Ends.fin (c := cS) cS_ok (gds []) 300 (ps := []) (v := .tup []) (rows := RW xs' :: (TK cn)) (by kernel_rfl) (by
    (try simp only [AllP, Int.toNat_natCast, ints_len, decide_eq_true_eq, decide_eq_false_iff_not, beq_eq_false_iff_ne, beq_iff_eq, bne_iff_ne, bne_eq_false_iff_eq, Bool.not_eq_true', Bool.not_eq_false', Int.not_lt, Int.not_le, gt_iff_lt, ge_iff_le, ne_eq, and_true, true_and, unI_ints, Nat.zero_add, List.length_set, Nat.le_refl])
    all_goals (repeat' (first | with_reducible assumption | with_reducible rfl | omega | with_reducible exact ints_get (by omega) | with_reducible apply And.intro | unfold inInt | with_reducible exact isInts_ints _))) (h xs' hl' hp')))
end Go.Aev.M33
end
/- M33SwapN -/
section
namespace Go.Aev.M33
set_option maxRecDepth 1000000
set_option linter.unusedSimpArgs false
set_option linter.unusedVariables false
theorem swpN_go {xs : List Int} {a b n : Int} {Q : V → Aev.Rows → Prop}  (h : Ends c0 2 (H182 xs.length (ints xs) TN a b n 0) Q) : Ends c0 2 (start cS 182 [SL 0 xs, I a, I b, I n, CC] (RW xs :: TN)) Q :=
  Ends.cfg rfl (Ends.turn (c := cS) cS_ok (gds []) (atLoop 1) 300 [0, 1] [0, 1, 2, 3, 10] (ps := []) (by kernel_rfl) (by
    (try simp only [AllP, Int.toNat_natCast, ints_len, decide_eq_true_eq, decide_eq_false_iff_not, beq_eq_false_iff_ne, beq_iff_eq, bne_iff_ne, bne_eq_false_iff_eq, Bool.not_eq_true', Bool.not_eq_false', Int.not_lt, Int.not_le, gt_iff_lt, ge_iff_le, ne_eq, and_true, true_and, unI_ints, Nat.zero_add, List.length_set, Nat.le_refl])
    all_goals (repeat' (first | with_reducible assumption | with_reducible rfl | omega | with_reducible exact ints_get (by omega) | with_reducible apply And.intro | unfold inInt | with_reducible exact isInts_ints _))) (Ends.cfg rfl h))
theorem swpN_end {xs : List Int} {a b n i : Int} {Q : V → Aev.Rows → Prop} (hk : n ≤ i) (h : Q (.tup []) (RW xs :: TN)) : Ends c0 2 (H182 xs.length (ints xs) TN a b n i) Q :=
  Ends.cfg rfl (Ends.fin (c := cS) cS_ok (gds [(13,false)]) 300 (ps := [decide (i < n) = false]) (by kernel_rfl) (by
    (try simp only [AllP, Int.toNat_natCast, ints_len, decide_eq_true_eq, decide_eq_false_iff_not, beq_eq_false_iff_ne, beq_iff_eq, bne_iff_ne, bne_eq_false_iff_eq, Bool.not_eq_true', Bool.not_eq_false', Int.not_lt, Int.not_le, gt_iff_lt, ge_iff_le, ne_eq, and_true, true_and, unI_ints, Nat.zero_add, List.length_set, Nat.le_refl])
    all_goals (repeat' (first | with_reducible assumption | with_reducible rfl | omega | with_reducible exact ints_get (by omega) | with_reducible apply And.intro | unfold inInt | with_reducible exact isInts_ints _))) h)
theorem swpN_turn {xs : List Int} {a b n i : Int} {Q : V → Aev.Rows → Prop} (hk : i < n) (h0 : 0 ≤ i) (h1 : 0 ≤ a) (h2 : 0 ≤ b) (h3 : a + i < xs.length) (h4 : b + i < xs.length) (hn : xs.length ≤ 1073741824) (h : Ends c0 2 (H182 xs.length (((ints xs).set (0 + (a + i).toNat) (.int .i64 (xs.getD (0 + (b + i).toNat) 0))).set (0 + (b + i).toNat) (.int .i64 (xs.getD (0 + (a + i).toNat) 0))) TN a b n (i + 1)) Q) : Ends c0 2 (H182 xs.length (ints xs) TN a b n i) Q :=
  Ends.cfg rfl (Ends.turn (c := cS) cS_ok (gdr [(13,true)] [] [(0, el xs)]) (atLoop 1) 300 [0, 1] [0, 1, 2, 3, 10] (ps := [decide (i < n) = true, inInt (a + i), inInt (b + i), inInt (b + i), nat_lit 1 = nat_lit 1 ∧ (0 : Int) ≤ b + i ∧ b + i < (↑(List.length xs) : Int), nat_lit 1 = nat_lit 1 ∧   (ints xs)[nat_lit 0 + Int.toNat (b + i)]? =     some (D.int IntKind.i64 (List.getD xs (nat_lit 0 + Int.toNat (b + i)) (0 : Int))), inInt (a + i), nat_lit 1 = nat_lit 1 ∧ (0 : Int) ≤ a + i ∧ a + i < (↑(List.length xs) : Int), nat_lit 1 = nat_lit 1 ∧   (ints xs)[nat_lit 0 + Int.toNat (a + i)]? =     some (D.int IntKind.i64 (List.getD xs (nat_lit 0 + Int.toNat (a + i)) (0 : Int))), nat_lit 1 = nat_lit 1 ∧ (0 : Int) ≤ a + i ∧ a + i < (↑(List.length xs) : Int), nat_lit 1 = nat_lit 1 ∧ nat_lit 0 < nat_lit 1 ∧ true = true, nat_lit 0 + Int.toNat (a + i) < List.length (ints xs), nat_lit 1 = nat_lit 1 ∧ nat_lit 0 = nat_lit 0 ∧ nat_lit 1 = nat_lit 1 ∧ true = true, nat_lit 1 = nat_lit 1 ∧ (0 : Int) ≤ b + i ∧ b + i < (↑(List.length xs) : Int), nat_lit 1 = nat_lit 1 ∧ nat_lit 0 < nat_lit 1 ∧ true = true, nat_lit 0 + Int.toNat (b + i) <   List.length     (List.set (ints xs) (nat_lit 0 + Int.toNat (a + i))       (mkElem         (Ty.agg           {             desc :=               TypeInfo.desc                 { desc := TypeDesc.int IntKind.i64, str := "int", size := nat_lit 1, bytes := nat_lit 8,                   hasPointers := false, align := nat_lit 8, fieldAlign := nat_lit 8,                   zero := some (Value.int IntKind.i64 (0 : Int)), comparable := true, methods := #[] },             size := nat_lit 1, bytes := nat_lit 8, zero := Value.int IntKind.i64 (0 : Int) })         [Prod.snd (nat_lit 0, el xs) (nat_lit 0 + Int.toNat (b + i))])), nat_lit 1 = nat_lit 1 ∧ nat_lit 0 = nat_lit 0 ∧ nat_lit 1 = nat_lit 1 ∧ true = true, inInt (i + (1 : Int))]) (by kernel_rfl) (by
    (try simp only [AllP, Int.toNat_natCast, ints_len, decide_eq_true_eq, decide_eq_false_iff_not, beq_eq_false_iff_ne, beq_iff_eq, bne_iff_ne, bne_eq_false_iff_eq, Bool.not_eq_true', Bool.not_eq_false', Int.not_lt, Int.not_le, gt_iff_lt, ge_iff_le, ne_eq, and_true, true_and, unI_ints, Nat.zero_add, List.length_set, Nat.le_refl])
    all_goals (repeat' (first | with_reducible assumption | with_reducible rfl | omega | with_reducible exact ints_get (by omega) | with_reducible apply And.intro | unfold inInt | with_reducible exact isInts_ints _))) (Ends.cfg rfl h))
theorem rotN_go {xs : List Int} {a m b : Int} {Q : V → Aev.Rows → Prop} (h1 : inInt (m - a)) (h2 : inInt (b - m)) (h : Ends c0 2 (H161 xs.length xs TN m (m - a) (b - m)) Q) : Ends c0 2 (start cS 161 [SL 0 xs, I a, I m, I b, CC] (RW xs :: TN)) Q :=
  Ends.cfg rfl (Ends.turn (c := cS) cS_ok (gds []) (atLoop 2) 300 [0, 1] [0, 2, 4, 10, 11] (ps := [inInt (m - a), inInt (b - m)]) (by kernel_rfl) (by
    (try simp only [AllP, Int.toNat_natCast, ints_len, decide_eq_true_eq, decide_eq_false_iff_not, beq_eq_false_iff_ne, beq_iff_eq, bne_iff_ne, bne_eq_false_iff_eq, Bool.not_eq_true', Bool.not_eq_false', Int.not_lt, Int.not_le, gt_iff_lt, ge_iff_le, ne_eq, and_true, true_and, unI_ints, Nat.zero_add, List.length_set, Nat.le_refl])
    all_goals (repeat' (first | with_reducible assumption | with_reducible rfl | omega | with_reducible exact ints_get (by omega) | with_reducible apply And.intro | unfold inInt | with_reducible exact isInts_ints _))) (Ends.cfg rfl h))
theorem rotN_left {xs : List Int} {m i j : Int} {P : List Int → Prop} {Q : V → Aev.Rows → Prop} (h1 : j < i) (h2 : inInt (m - i)) (h3 : inInt (i - j)) (hd : SortDoes 182 2 [I (m - i), I m, I j] TN (xs) (P)) (h : ∀ xs' : List Int, xs'.length = (xs).length → (P) xs' → Ends c0 2 (H161 xs.length xs' TN m (i - j) j) Q) : Ends c0 2 (H161 xs.length xs TN m i j) Q :=
  Ends.cfg rfl (Ends.to (c := cS) cS_ok (gds [(20,true),(23,true)]) (atOp 8 6) 300 (s' := (nextOf (sTo cS (gds [(20,true),(23,true)]) (atOp 8 6) 300 (H161 xs.length xs TN m i j)))) (ps := [(i != j) = true, decide (i > j) = true, inInt (m - i)]) (by kernel_rfl) (by
    (try simp only [AllP, Int.toNat_natCast, ints_len, decide_eq_true_eq, decide_eq_false_iff_not, beq_eq_false_iff_ne, beq_iff_eq, bne_iff_ne, bne_eq_false_iff_eq, Bool.not_eq_true', Bool.not_eq_false', Int.not_lt, Int.not_le, gt_iff_lt, ge_iff_le, ne_eq, and_true, true_and, unI_ints, Nat.zero_add, List.length_set, Nat.le_refl])
    all_goals (repeat' (first | with_reducible assumption | with_reducible rfl | omega | with_reducible exact ints_get (by omega) | with_reducible apply And.intro | unfold inInt | with_reducible exact isInts_ints _)))
    (Ends.callS (args := [I (m - i), I m, I j]) (T := TN) (xs := xs) (rs := [0, 1]) cS_ok rfl (by kernel_rfl) hd (fun xs' => by kernel_rfl) fun xs' hl' hp' =>
    Ends.turn (c := cS) cS_ok (gds []) (atLoop 2) 300 [0, 1] [0, 2, 4, 10, 11] (ps := [inInt (i - j)]) (by kernel_rfl) (by
    (try simp only [AllP, Int.toNat_natCast, ints_len, decide_eq_true_eq, decide_eq_false_iff_not, beq_eq_false_iff_ne, beq_iff_eq, bne_iff_ne, bne_eq_false_iff_eq, Bool.not_eq_true', Bool.not_eq_false', Int.not_lt, Int.not_le, gt_iff_lt, ge_iff_le, ne_eq, and_true, true_and, unI_ints, Nat.zero_add, List.length_set, Nat.le_refl])
    all_goals (repeat' (first | with_reducible assumption | with_reducible rfl | omega | with_reducible exact ints_get (by omega) | with_reducible apply And.intro | unfold inInt | with_reducible exact isInts_ints _))) (Ends.cfg rfl (h xs' hl' hp'))))
theorem rotN_right {xs : List Int} {m i j : Int} {P : List Int → Prop} {Q : V → Aev.Rows → Prop} (h1 : i < j) (h2 : inInt (m - i)) (h3 : inInt (m + j)) (h4 : inInt (m + j - i)) (h5 : inInt (j - i)) (hd : SortDoes 182 2 [I (m - i), I (m + j - i), I i] TN (xs) (P)) (h : ∀ xs' : List Int, xs'.length = (xs).length → (P) xs' → Ends c0 2 (H161 xs.length xs' TN m i (j - i)) Q) : Ends c0 2 (H161 xs.length xs TN m i j) Q :=
  Ends.cfg rfl (Ends.to (c := cS) cS_ok (gds [(20,true),(23,false)]) (atOp 12 10) 300 (s' := (nextOf (sTo cS (gds [(20,true),(23,false)]) (atOp 12 10) 300 (H161 xs.length xs TN m i j)))) (ps := [(i != j) = true, decide (i > j) = false, inInt (m - i), inInt (m + j), inInt (m + j - i)]) (by kernel_rfl) (by
    (try simp only [AllP, Int.toNat_natCast, ints_len, decide_eq_true_eq, decide_eq_false_iff_not, beq_eq_false_iff_ne, beq_iff_eq, bne_iff_ne, bne_eq_false_iff_eq, Bool.not_eq_true', Bool.not_eq_false', Int.not_lt, Int.not_le, gt_iff_lt, ge_iff_le, ne_eq, and_true, true_and, unI_ints, Nat.zero_add, List.length_set, Nat.le_refl])
    all_goals (repeat' (first | with_reducible assumption | with_reducible rfl | omega | with_reducible exact ints_get (by omega) | with_reducible apply And.intro | unfold inInt | with_reducible exact isInts_ints _)))
    (Ends.callS (args := [I (m - i), I (m + j - i), I i]) (T := TN) (xs := xs) (rs := [0, 1]) cS_ok rfl (by kernel_rfl) hd (fun xs' => by kernel_rfl) fun xs' hl' hp' =>
    Ends.turn (c := cS) cS_ok (gds []) (atLoop 2) 300 [0, 1] [0, 2, 4, 10, 11] (ps := [inInt (j - i)]) (by kernel_rfl) (by
    (try simp only [AllP, Int.toNat_natCast, ints_len, decide_eq_true_eq, decide_eq_false_iff_not, beq_eq_false_iff_ne, beq_iff_eq, bne_iff_ne, bne_eq_false_iff_eq, Bool.not_eq_true', Bool.not_eq_false', Int.not_lt, Int.not_le, gt_iff_lt, ge_iff_le, ne_eq, and_true, true_and, unI_ints, Nat.zero_add, List.length_set, Nat.le_refl])
    all_goals (repeat' (first | with_reducible assumption | with_reducible rfl | omega | with_reducible exact ints_get (by omega) | with_reducible apply And.intro | unfold inInt | with_reducible exact isInts_ints _))) (Ends.cfg rfl (h xs' hl' hp'))))
theorem rotN_end {xs : List Int} {m i j : Int} {P : List Int → Prop} {Q : V → Aev.Rows → Prop} (h1 : i = j) (h2 : inInt (m - i)) (hd : SortDoes 182 2 [I (m - i), I m, I i] TN (xs) (P)) (h : ∀ xs' : List Int, xs'.length = (xs).length → (P) xs' → Q (.tup []) (RW xs' :: TN)) : Ends c0 2 (H161 xs.length xs TN m i j) Q :=
  Ends.cfg rfl (Ends.to (c := cS) cS_ok (gds [(20,false)]) (atOp 8 6) 300 (s' := (nextOf (sTo cS (gds [(20,false)]) (atOp 8 6) 300 (H161 xs.length xs TN m i j)))) (ps := [(i != j) = false, inInt (m - i)]) (by kernel_rfl) (by
    (try simp only [AllP, Int.toNat_natCast, ints_len, decide_eq_true_eq, decide_eq_false_iff_not, beq_eq_false_iff_ne, beq_iff_eq, bne_iff_ne, bne_eq_false_iff_eq, Bool.not_eq_true', Bool.not_eq_false', Int.not_lt, Int.not_le, gt_iff_lt, ge_iff_le, ne_eq, and_true, true_and, unI_ints, Nat.zero_add, List.length_set, Nat.le_refl])
    all_goals (repeat' (first | with_reducible assumption | with_reducible rfl | omega | with_reducible exact ints_get (by omega) | with_reducible apply And.intro | unfold inInt | with_reducible exact isInts_ints _)))
    (Ends.callS (args := [I (m - i), I m, I i]) (T := TN) (xs := xs) (rs := [0, 1]) cS_ok rfl (by kernel_rfl) hd (fun xs' => by kernel_rfl) fun xs' hl' hp' =>
    Ends.fin (c := cS) cS_ok (gds []) 300 (ps := []) (v := .tup []) (rows := RW xs' :: TN) (by kernel_rfl) (by
    (try simp only [AllP, Int.toNat_natCast, ints_len, decide_eq_true_eq, decide_eq_false_iff_not, beq_eq_false_iff_ne, beq_iff_eq, bne_iff_ne, bne_eq_false_iff_eq, Bool.not_eq_true', Bool.not_eq_false', Int.not_lt, Int.not_le, gt_iff_lt, ge_iff_le, ne_eq, and_true, true_and, unI_ints, Nat.zero_add, List.length_set, Nat.le_refl])
    all_goals (repeat' (first | with_reducible assumption | with_reducible rfl | omega | with_reducible exact ints_get (by omega) | with_reducible apply And.intro | unfold inInt | with_reducible exact isInts_ints _))) (h xs' hl' hp')))
end Go.Aev.M33
end
/- M33SymDefs -/
section
namespace Go.Aev.M33
set_option maxRecDepth 1000000
set_option linter.unusedVariables false
/-- where a region is begun -/
def atReg (id : Nat) (s : AS) : Bool :=
  match s.fr.todo, s.stack with
  | .it (.code (.region i _ _)) :: _, [] => Nat.beq i id
  | _, _ => false
/-- half of a sum, as the code has it -/
def hf (x : Int) : Int := IntKind.wrap .i64 (Int.fdiv (IntKind.wrap .u64 x) (2 ^ 1))
theorem hf_raw (x : Int) : IntKind.wrap .i64 (Int.fdiv (IntKind.wrap .u64 x) (2 ^ 1)) = hf x := rfl
theorem hf_eq {x : Int} (h : 0 ≤ x) (h' : x ≤ 4611686018427387904) : hf x = x / 2 := by
  have e : IntKind.wrap .u64 x = x := by
    simp [IntKind.wrap, IntKind.bits, IntKind.signed]
    omega
  unfold hf
  rw [e, Int.fdiv_eq_ediv_of_nonneg _ (by decide)]
  have : x / (2 ^ 1) = x / 2 := by simp
  rw [this]
  exact wrap_in ⟨by omega, by omega⟩
abbrev A5 (n : Nat) (a m b : Int) : List (Nat × V) := [(0, .sl 0 1 0 n n false), (1, I a), (2, I m), (3, I b), (4, CC)]
noncomputable def s114 (n : Nat) (xs : List Int) (T : Aev.Rows) (a m b : Int) : AS := start cS 114 [.sl 0 1 0 n n false, I a, I m, I b, CC] (RW xs :: T)
noncomputable def tdA : List AItem := (nextOf (sTo cS (gds [(28,true)]) (atLoop 3) 300 (s114 1 [0] TN 0 0 0))).fr.todo
noncomputable def HA (n : Nat) (xs : List Int) (T : Aev.Rows) (a m b i j : Int) : AS := hd 114 tdA 220 (A5 n a m b ++ [(10, I i), (11, I j)]) (RW xs :: T)
noncomputable def tdAs : List AItem := (nextOf (sTo cS (gds [(33,false)]) (atLoop 3) 300 (HA 1 [0] TN 0 0 0 0 0))).fr.todo
noncomputable def HAs (n : Nat) (es : List D) (T : Aev.Rows) (i k : Int) : AS := hd 114 tdAs 220 [(0, .sl 0 1 0 n n false), (10, I i), (13, I k)] (.live (.dat 1 es false) :: T)
noncomputable def tdB : List AItem := (nextOf (sTo cS (gds [(28,false),(80,true)]) (atLoop 3) 300 (s114 1 [0] TN 0 0 0))).fr.todo
noncomputable def HB (n : Nat) (xs : List Int) (T : Aev.Rows) (a m b i j : Int) : AS := hd 114 tdB 220 (A5 n a m b ++ [(14, I i), (15, I j)]) (RW xs :: T)
noncomputable def tdBs : List AItem := (nextOf (sTo cS (gds [(85,false)]) (atLoop 3) 300 (HB 1 [0] TN 0 0 0 0 0))).fr.todo
noncomputable def HBs (n : Nat) (es : List D) (T : Aev.Rows) (i k : Int) : AS := hd 114 tdBs 220 [(0, .sl 0 1 0 n n false), (14, I i), (17, I k)] (.live (.dat 1 es false) :: T)
noncomputable def tdCs : List AItem := (nextOf (sTo cS (gds [(28,false),(80,false),(140,true)]) (atLoop 2) 300 (s114 1 [0] TN 0 0 0))).fr.todo
noncomputable def HCs (n : Nat) (xs : List Int) (T : Aev.Rows) (a m b mid nn st r p : Int) : AS := hd 114 tdCs 220 (A5 n a m b ++ [(18, I mid), (19, I nn), (20, I st), (21, I r), (22, I p)]) (RW xs :: T)
abbrev D8 (n : Nat) (a m b mid st en : Int) : List (Nat × V) := A5 n a m b ++ [(18, I mid), (20, I st), (24, I en)]
noncomputable def tdD1 : List AItem := (nextOf (sTo cS (gds [(151,false)]) (atReg 39) 300 (HCs 1 [0] TN 0 0 0 0 0 0 0 0))).fr.todo
noncomputable def HD1 (n : Nat) (xs : List Int) (T : Aev.Rows) (a m b mid st en : Int) : AS := hd 114 tdD1 220 (D8 n a m b mid st en) (RW xs :: T)
noncomputable def tdD2 : List AItem := (nextOf (sTo cS (gds [(181,false)]) (atReg 41) 300 (HD1 1 [0] TN 0 0 0 0 0 0))).fr.todo
noncomputable def HD2 (n : Nat) (xs : List Int) (T : Aev.Rows) (a m b mid st en : Int) : AS := hd 114 tdD2 220 (D8 n a m b mid st en) (RW xs :: T)
noncomputable def tdD3 : List AItem := (nextOf (sTo cS (gds [(195,false)]) (atReg 43) 300 (HD2 1 [0] TN 0 0 0 0 0 0))).fr.todo
noncomputable def HD3 (n : Nat) (xs : List Int) (T : Aev.Rows) (a m b mid st en : Int) : AS := hd 114 tdD3 220 (D8 n a m b mid st en) (RW xs :: T)
end Go.Aev.M33
end
/- M33Sym2K -/
section
namespace Go.Aev.M33
set_option maxRecDepth 1000000
set_option linter.unusedSimpArgs false
set_option linter.unusedVariables false
theorem symK_C_ge {cn : List Int} {n : Nat} {xs : List Int} {a m b mid nn st r p : Int} {Q : V → Aev.Rows → Prop} (hn : n = xs.length) (h1 : st < r) (h2 : inInt (st + r)) (h3 : inInt (p - hf (st + r))) (p0 : 0 ≤ p - hf (st + r)) (p1 : p - hf (st + r) < xs.length) (p2 : 0 ≤ xs.getD (p - hf (st + r)).toNat 0 ∧ xs.getD (p - hf (st + r)).toNat 0 < cn.length)(q0 : 0 ≤ hf (st + r)) (q1 : hf (st + r) < xs.length) (q2 : 0 ≤ xs.getD (hf (st + r)).toNat 0 ∧ xs.getD (hf (st + r)).toNat 0 < cn.length) (hc : 0 ≤ cmpI (cn.getD (xs.getD (p - hf (st + r)).toNat 0).toNat 0) (cn.getD (xs.getD (hf (st + r)).toNat 0).toNat 0)) (h4 : inInt (hf (st + r) + 1)) (h : Ends c0 3 (HCs n xs (TK cn) a m b mid nn (hf (st + r) + 1) r p) Q) : Ends c0 3 (HCs n xs (TK cn) a m b mid nn st r p) Q :=
  Ends.cfg rfl (Ends.turn (c := cS) cS_ok (gdr [(151,true),(171,true)] [] [(0, el xs)]) (atLoop 2) 300 [0, 1, 2] [0, 1, 2, 3, 4, 18, 19, 20, 21, 22] (ps := [decide (st < r) = true, inInt (st + r), inInt (p - IntKind.wrap IntKind.i64 (Int.fdiv (IntKind.wrap IntKind.u64 (st + r)) ((2 : Int) ^ nat_lit 1))), nat_lit 1 = nat_lit 1 ∧   (0 : Int) ≤ p - IntKind.wrap IntKind.i64 (Int.fdiv (IntKind.wrap IntKind.u64 (st + r)) ((2 : Int) ^ nat_lit 1)) ∧     p - IntKind.wrap IntKind.i64 (Int.fdiv (IntKind.wrap IntKind.u64 (st + r)) ((2 : Int) ^ nat_lit 1)) < (↑n : Int), nat_lit 1 = nat_lit 1 ∧   (ints         xs)[nat_lit 0 +         Int.toNat           (p - IntKind.wrap IntKind.i64 (Int.fdiv (IntKind.wrap IntKind.u64 (st + r)) ((2 : Int) ^ nat_lit 1)))]? =     some       (D.int IntKind.i64         (List.getD xs           (nat_lit 0 +             Int.toNat               (p - IntKind.wrap IntKind.i64 (Int.fdiv (IntKind.wrap IntKind.u64 (st + r)) ((2 : Int) ^ nat_lit 1))))           (0 : Int))), nat_lit 1 = nat_lit 1 ∧   (0 : Int) ≤ IntKind.wrap IntKind.i64 (Int.fdiv (IntKind.wrap IntKind.u64 (st + r)) ((2 : Int) ^ nat_lit 1)) ∧     IntKind.wrap IntKind.i64 (Int.fdiv (IntKind.wrap IntKind.u64 (st + r)) ((2 : Int) ^ nat_lit 1)) < (↑n : Int), nat_lit 1 = nat_lit 1 ∧   (ints         xs)[nat_lit 0 +         Int.toNat (IntKind.wrap IntKind.i64 (Int.fdiv (IntKind.wrap IntKind.u64 (st + r)) ((2 : Int) ^ nat_lit 1)))]? =     some       (D.int IntKind.i64         (List.getD xs           (nat_lit 0 +             Int.toNat (IntKind.wrap IntKind.i64 (Int.fdiv (IntKind.wrap IntKind.u64 (st + r)) ((2 : Int) ^ nat_lit 1))))           (0 : Int))), isInts (ints cn), (0 : Int) ≤     List.getD xs       (nat_lit 0 +         Int.toNat (p - IntKind.wrap IntKind.i64 (Int.fdiv (IntKind.wrap IntKind.u64 (st + r)) ((2 : Int) ^ nat_lit 1))))       (0 : Int) ∧   List.getD xs         (nat_lit 0 +           Int.toNat             (p - IntKind.wrap IntKind.i64 (Int.fdiv (IntKind.wrap IntKind.u64 (st + r)) ((2 : Int) ^ nat_lit 1))))         (0 : Int) <       (↑(List.length (ints cn)) : Int) ∧     (0 : Int) ≤         List.getD xs           (nat_lit 0 +             Int.toNat (IntKind.wrap IntKind.i64 (Int.fdiv (IntKind.wrap IntKind.u64 (st + r)) ((2 : Int) ^ nat_lit 1))))           (0 : Int) ∧       List.getD xs           (nat_lit 0 +             Int.toNat (IntKind.wrap IntKind.i64 (Int.fdiv (IntKind.wrap IntKind.u64 (st + r)) ((2 : Int) ^ nat_lit 1))))           (0 : Int) <         (↑(List.length (ints cn)) : Int), (!decide       (cmpI           (List.getD (List.map unI (ints cn))             (Int.toNat               (List.getD xs                 (nat_lit 0 +                   Int.toNat                     (p -                       IntKind.wrap IntKind.i64 (Int.fdiv (IntKind.wrap IntKind.u64 (st + r)) ((2 : Int) ^ nat_lit 1))))                 (0 : Int)))             (0 : Int))           (List.getD (List.map unI (ints cn))             (Int.toNat               (List.getD xs                 (nat_lit 0 +                   Int.toNat                     (IntKind.wrap IntKind.i64 (Int.fdiv (IntKind.wrap IntKind.u64 (st + r)) ((2 : Int) ^ nat_lit 1))))                 (0 : Int)))             (0 : Int)) <         (0 : Int))) =   true, inInt (IntKind.wrap IntKind.i64 (Int.fdiv (IntKind.wrap IntKind.u64 (st + r)) ((2 : Int) ^ nat_lit 1)) + (1 : Int))]) (by kernel_rfl) (by
    (try simp only [AllP, Int.toNat_natCast, ints_len, decide_eq_true_eq, decide_eq_false_iff_not, beq_eq_false_iff_ne, beq_iff_eq, bne_iff_ne, bne_eq_false_iff_eq, Bool.not_eq_true', Bool.not_eq_false', Int.not_lt, Int.not_le, gt_iff_lt, ge_iff_le, ne_eq, and_true, true_and, unI_ints, Nat.zero_add, List.length_set, Nat.le_refl, hf_raw])
    all_goals (repeat' (first | with_reducible assumption | with_reducible rfl | omega | with_reducible exact ints_get (by omega) | with_reducible apply And.intro | unfold inInt | with_reducible exact isInts_ints _))) (Ends.cfg rfl h))
theorem symK_C_lt {cn : List Int} {n : Nat} {xs : List Int} {a m b mid nn st r p : Int} {Q : V → Aev.Rows → Prop} (hn : n = xs.length) (h1 : st < r) (h2 : inInt (st + r)) (h3 : inInt (p - hf (st + r))) (p0 : 0 ≤ p - hf (st + r)) (p1 : p - hf (st + r) < xs.length) (p2 : 0 ≤ xs.getD (p - hf (st + r)).toNat 0 ∧ xs.getD (p - hf (st + r)).toNat 0 < cn.length)(q0 : 0 ≤ hf (st + r)) (q1 : hf (st + r) < xs.length) (q2 : 0 ≤ xs.getD (hf (st + r)).toNat 0 ∧ xs.getD (hf (st + r)).toNat 0 < cn.length) (hc : cmpI (cn.getD (xs.getD (p - hf (st + r)).toNat 0).toNat 0) (cn.getD (xs.getD (hf (st + r)).toNat 0).toNat 0) < 0) (h : Ends c0 3 (HCs n xs (TK cn) a m b mid nn st (hf (st + r)) p) Q) : Ends c0 3 (HCs n xs (TK cn) a m b mid nn st r p) Q :=
  Ends.cfg rfl (Ends.turn (c := cS) cS_ok (gdr [(151,true),(171,false)] [] [(0, el xs)]) (atLoop 2) 300 [0, 1, 2] [0, 1, 2, 3, 4, 18, 19, 20, 21, 22] (ps := [decide (st < r) = true, inInt (st + r), inInt (p - IntKind.wrap IntKind.i64 (Int.fdiv (IntKind.wrap IntKind.u64 (st + r)) ((2 : Int) ^ nat_lit 1))), nat_lit 1 = nat_lit 1 ∧   (0 : Int) ≤ p - IntKind.wrap IntKind.i64 (Int.fdiv (IntKind.wrap IntKind.u64 (st + r)) ((2 : Int) ^ nat_lit 1)) ∧     p - IntKind.wrap IntKind.i64 (Int.fdiv (IntKind.wrap IntKind.u64 (st + r)) ((2 : Int) ^ nat_lit 1)) < (↑n : Int), nat_lit 1 = nat_lit 1 ∧   (ints         xs)[nat_lit 0 +         Int.toNat           (p - IntKind.wrap IntKind.i64 (Int.fdiv (IntKind.wrap IntKind.u64 (st + r)) ((2 : Int) ^ nat_lit 1)))]? =     some       (D.int IntKind.i64         (List.getD xs           (nat_lit 0 +             Int.toNat               (p - IntKind.wrap IntKind.i64 (Int.fdiv (IntKind.wrap IntKind.u64 (st + r)) ((2 : Int) ^ nat_lit 1))))           (0 : Int))), nat_lit 1 = nat_lit 1 ∧   (0 : Int) ≤ IntKind.wrap IntKind.i64 (Int.fdiv (IntKind.wrap IntKind.u64 (st + r)) ((2 : Int) ^ nat_lit 1)) ∧     IntKind.wrap IntKind.i64 (Int.fdiv (IntKind.wrap IntKind.u64 (st + r)) ((2 : Int) ^ nat_lit 1)) < (↑n : Int), nat_lit 1 = nat_lit 1 ∧   (ints         xs)[nat_lit 0 +         Int.toNat (IntKind.wrap IntKind.i64 (Int.fdiv (IntKind.wrap IntKind.u64 (st + r)) ((2 : Int) ^ nat_lit 1)))]? =     some       (D.int IntKind.i64         (List.getD xs           (nat_lit 0 +             Int.toNat (IntKind.wrap IntKind.i64 (Int.fdiv (IntKind.wrap IntKind.u64 (st + r)) ((2 : Int) ^ nat_lit 1))))           (0 : Int))), isInts (ints cn), (0 : Int) ≤     List.getD xs       (nat_lit 0 +         Int.toNat (p - IntKind.wrap IntKind.i64 (Int.fdiv (IntKind.wrap IntKind.u64 (st + r)) ((2 : Int) ^ nat_lit 1))))       (0 : Int) ∧   List.getD xs         (nat_lit 0 +           Int.toNat             (p - IntKind.wrap IntKind.i64 (Int.fdiv (IntKind.wrap IntKind.u64 (st + r)) ((2 : Int) ^ nat_lit 1))))         (0 : Int) <       (↑(List.length (ints cn)) : Int) ∧     (0 : Int) ≤         List.getD xs           (nat_lit 0 +             Int.toNat (IntKind.wrap IntKind.i64 (Int.fdiv (IntKind.wrap IntKind.u64 (st + r)) ((2 : Int) ^ nat_lit 1))))           (0 : Int) ∧       List.getD xs           (nat_lit 0 +             Int.toNat (IntKind.wrap IntKind.i64 (Int.fdiv (IntKind.wrap IntKind.u64 (st + r)) ((2 : Int) ^ nat_lit 1))))           (0 : Int) <         (↑(List.length (ints cn)) : Int), (!decide       (cmpI           (List.getD (List.map unI (ints cn))             (Int.toNat               (List.getD xs                 (nat_lit 0 +                   Int.toNat                     (p -                       IntKind.wrap IntKind.i64 (Int.fdiv (IntKind.wrap IntKind.u64 (st + r)) ((2 : Int) ^ nat_lit 1))))                 (0 : Int)))             (0 : Int))           (List.getD (List.map unI (ints cn))             (Int.toNat               (List.getD xs                 (nat_lit 0 +                   Int.toNat                     (IntKind.wrap IntKind.i64 (Int.fdiv (IntKind.wrap IntKind.u64 (st + r)) ((2 : Int) ^ nat_lit 1))))                 (0 : Int)))             (0 : Int)) <         (0 : Int))) =   false]) (by kernel_rfl) (by
    (try simp only [AllP, Int.toNat_natCast, ints_len, decide_eq_true_eq, decide_eq_false_iff_not, beq_eq_false_iff_ne, beq_iff_eq, bne_iff_ne, bne_eq_false_iff_eq, Bool.not_eq_true', Bool.not_eq_false', Int.not_lt, Int.not_le, gt_iff_lt, ge_iff_le, ne_eq, and_true, true_and, unI_ints, Nat.zero_add, List.length_set, Nat.le_refl, hf_raw])
    all_goals (repeat' (first | with_reducible assumption | with_reducible rfl | omega | with_reducible exact ints_get (by omega) | with_reducible apply And.intro | unfold inInt | with_reducible exact isInts_ints _))) (Ends.cfg rfl h))
theorem symK_C_done {cn : List Int} {n : Nat} {xs : List Int} {a m b mid nn st r p : Int} {Q : V → Aev.Rows → Prop} (h1 : r ≤ st) (h2 : inInt (nn - st)) (h : Ends c0 3 (HD1 n xs (TK cn) a m b mid st (nn - st)) Q) : Ends c0 3 (HCs n xs (TK cn) a m b mid nn st r p) Q :=
  Ends.cfg rfl (Ends.turn (c := cS) cS_ok (gds [(151,false)]) (atReg 39) 300 [0, 1, 2] [0, 1, 2, 3, 4, 18, 20, 24] (ps := [decide (st < r) = false, inInt (nn - st)]) (by kernel_rfl) (by
    (try simp only [AllP, Int.toNat_natCast, ints_len, decide_eq_true_eq, decide_eq_false_iff_not, beq_eq_false_iff_ne, beq_iff_eq, bne_iff_ne, bne_eq_false_iff_eq, Bool.not_eq_true', Bool.not_eq_false', Int.not_lt, Int.not_le, gt_iff_lt, ge_iff_le, ne_eq, and_true, true_and, unI_ints, Nat.zero_add, List.length_set, Nat.le_refl, hf_raw])
    all_goals (repeat' (first | with_reducible assumption | with_reducible rfl | omega | with_reducible exact ints_get (by omega) | with_reducible apply And.intro | unfold inInt | with_reducible exact isInts_ints _))) (Ends.cfg rfl h))
theorem symK_D1_yes {cn : List Int} {xs : List Int} {a m b mid st en : Int} {P : List Int → Prop} {Q : V → Aev.Rows → Prop} (h1 : st < m) (h2 : m < en) (hd : SortDoes 161 3 [I st, I m, I en] (TK cn) (xs) (P)) (h : ∀ xs' : List Int, xs'.length = (xs).length → (P) xs' → Ends c0 3 (HD2 xs.length xs' (TK cn) a m b mid st en) Q) : Ends c0 3 (HD1 xs.length xs (TK cn) a m b mid st en) Q :=
  Ends.cfg rfl (Ends.to (c := cS) cS_ok (gds [(181,true),(185,true)]) (atOp 6 4) 300 (s' := (nextOf (sTo cS (gds [(181,true),(185,true)]) (atOp 6 4) 300 (HD1 xs.length xs (TK cn) a m b mid st en)))) (ps := [decide (st < m) = true, decide (st < m) = true, decide (st < m) = true, decide (st < m) = true, decide (m < en) = true]) (by kernel_rfl) (by
    (try simp only [AllP, Int.toNat_natCast, ints_len, decide_eq_true_eq, decide_eq_false_iff_not, beq_eq_false_iff_ne, beq_iff_eq, bne_iff_ne, bne_eq_false_iff_eq, Bool.not_eq_true', Bool.not_eq_false', Int.not_lt, Int.not_le, gt_iff_lt, ge_iff_le, ne_eq, and_true, true_and, unI_ints, Nat.zero_add, List.length_set, Nat.le_refl, hf_raw])
    all_goals (repeat' (first | with_reducible assumption | with_reducible rfl | omega | with_reducible exact ints_get (by omega) | with_reducible apply And.intro | unfold inInt | with_reducible exact isInts_ints _)))
    (Ends.callS (args := [I st, I m, I en]) (T := (TK cn)) (xs := xs) (rs := [0, 1, 2]) cS_ok rfl (by kernel_rfl) hd (fun xs' => by kernel_rfl) fun xs' hl' hp' =>
    Ends.turn (c := cS) cS_ok (gds []) (atReg 41) 300 [0, 1, 2] [0, 1, 2, 3, 4, 18, 20, 24] (ps := []) (by kernel_rfl) (by
    (try simp only [AllP, Int.toNat_natCast, ints_len, decide_eq_true_eq, decide_eq_false_iff_not, beq_eq_false_iff_ne, beq_iff_eq, bne_iff_ne, bne_eq_false_iff_eq, Bool.not_eq_true', Bool.not_eq_false', Int.not_lt, Int.not_le, gt_iff_lt, ge_iff_le, ne_eq, and_true, true_and, unI_ints, Nat.zero_add, List.length_set, Nat.le_refl, hf_raw])
    all_goals (repeat' (first | with_reducible assumption | with_reducible rfl | omega | with_reducible exact ints_get (by omega) | with_reducible apply And.intro | unfold inInt | with_reducible exact isInts_ints _))) (Ends.cfg rfl (h xs' hl' hp'))))
theorem symK_D1_no1 {cn : List Int} {xs : List Int} {a m b mid st en : Int} {Q : V → Aev.Rows → Prop} (h1 : m ≤ st) (h : Ends c0 3 (HD2 xs.length xs (TK cn) a m b mid st en) Q) : Ends c0 3 (HD1 xs.length xs (TK cn) a m b mid st en) Q :=
  Ends.cfg rfl (Ends.turn (c := cS) cS_ok (gds [(181,false)]) (atReg 41) 300 [0, 1, 2] [0, 1, 2, 3, 4, 18, 20, 24] (ps := [decide (st < m) = false, decide (st < m) = false, decide (st < m) = false, decide (st < m) = false]) (by kernel_rfl) (by
    (try simp only [AllP, Int.toNat_natCast, ints_len, decide_eq_true_eq, decide_eq_false_iff_not, beq_eq_false_iff_ne, beq_iff_eq, bne_iff_ne, bne_eq_false_iff_eq, Bool.not_eq_true', Bool.not_eq_false', Int.not_lt, Int.not_le, gt_iff_lt, ge_iff_le, ne_eq, and_true, true_and, unI_ints, Nat.zero_add, List.length_set, Nat.le_refl, hf_raw])
    all_goals (repeat' (first | with_reducible assumption | with_reducible rfl | omega | with_reducible exact ints_get (by omega) | with_reducible apply And.intro | unfold inInt | with_reducible exact isInts_ints _))) (Ends.cfg rfl h))
theorem symK_D1_no2 {cn : List Int} {xs : List Int} {a m b mid st en : Int} {Q : V → Aev.Rows → Prop} (h1 : st < m) (h2 : en ≤ m) (h : Ends c0 3 (HD2 xs.length xs (TK cn) a m b mid st en) Q) : Ends c0 3 (HD1 xs.length xs (TK cn) a m b mid st en) Q :=
  Ends.cfg rfl (Ends.turn (c := cS) cS_ok (gds [(181,true),(185,false)]) (atReg 41) 300 [0, 1, 2] [0, 1, 2, 3, 4, 18, 20, 24] (ps := [decide (st < m) = true, decide (st < m) = true, decide (st < m) = true, decide (st < m) = true, decide (m < en) = false]) (by kernel_rfl) (by
    (try simp only [AllP, Int.toNat_natCast, ints_len, decide_eq_true_eq, decide_eq_false_iff_not, beq_eq_false_iff_ne, beq_iff_eq, bne_iff_ne, bne_eq_false_iff_eq, Bool.not_eq_true', Bool.not_eq_false', Int.not_lt, Int.not_le, gt_iff_lt, ge_iff_le, ne_eq, and_true, true_and, unI_ints, Nat.zero_add, List.length_set, Nat.le_refl, hf_raw])
    all_goals (repeat' (first | with_reducible assumption | with_reducible rfl | omega | with_reducible exact ints_get (by omega) | with_reducible apply And.intro | unfold inInt | with_reducible exact isInts_ints _))) (Ends.cfg rfl h))
theorem symK_D2_yes {cn : List Int} {xs : List Int} {a m b mid st en : Int} {P : List Int → Prop} {Q : V → Aev.Rows → Prop} (h1 : a < st) (h2 : st < mid) (hd : SortDoes 114 3 [I a, I st, I mid] (TK cn) (xs) (P)) (h : ∀ xs' : List Int, xs'.length = (xs).length → (P) xs' → Ends c0 3 (HD3 xs.length xs' (TK cn) a m b mid st en) Q) : Ends c0 3 (HD2 xs.length xs (TK cn) a m b mid st en) Q :=
  Ends.cfg rfl (Ends.to (c := cS) cS_ok (gds [(195,true),(199,true)]) (atOp 6 4) 300 (s' := (nextOf (sTo cS (gds [(195,true),(199,true)]) (atOp 6 4) 300 (HD2 xs.length xs (TK cn) a m b mid st en)))) (ps := [decide (a < st) = true, decide (a < st) = true, decide (a < st) = true, decide (a < st) = true, decide (st < mid) = true]) (by kernel_rfl) (by
    (try simp only [AllP, Int.toNat_natCast, ints_len, decide_eq_true_eq, decide_eq_false_iff_not, beq_eq_false_iff_ne, beq_iff_eq, bne_iff_ne, bne_eq_false_iff_eq, Bool.not_eq_true', Bool.not_eq_false', Int.not_lt, Int.not_le, gt_iff_lt, ge_iff_le, ne_eq, and_true, true_and, unI_ints, Nat.zero_add, List.length_set, Nat.le_refl, hf_raw])
    all_goals (repeat' (first | with_reducible assumption | with_reducible rfl | omega | with_reducible exact ints_get (by omega) | with_reducible apply And.intro | unfold inInt | with_reducible exact isInts_ints _)))
    (Ends.callS (args := [I a, I st, I mid]) (T := (TK cn)) (xs := xs) (rs := [0, 1, 2]) cS_ok rfl (by kernel_rfl) hd (fun xs' => by kernel_rfl) fun xs' hl' hp' =>
    Ends.turn (c := cS) cS_ok (gds []) (atReg 43) 300 [0, 1, 2] [0, 1, 2, 3, 4, 18, 20, 24] (ps := []) (by kernel_rfl) (by
    (try simp only [AllP, Int.toNat_natCast, ints_len, decide_eq_true_eq, decide_eq_false_iff_not, beq_eq_false_iff_ne, beq_iff_eq, bne_iff_ne, bne_eq_false_iff_eq, Bool.not_eq_true', Bool.not_eq_false', Int.not_lt, Int.not_le, gt_iff_lt, ge_iff_le, ne_eq, and_true, true_and, unI_ints, Nat.zero_add, List.length_set, Nat.le_refl, hf_raw])
    all_goals (repeat' (first | with_reducible assumption | with_reducible rfl | omega | with_reducible exact ints_get (by omega) | with_reducible apply And.intro | unfold inInt | with_reducible exact isInts_ints _))) (Ends.cfg rfl (h xs' hl' hp'))))
theorem symK_D2_no1 {cn : List Int} {xs : List Int} {a m b mid st en : Int} {Q : V → Aev.Rows → Prop} (h1 : st ≤ a) (h : Ends c0 3 (HD3 xs.length xs (TK cn) a m b mid st en) Q) : Ends c0 3 (HD2 xs.length xs (TK cn) a m b mid st en) Q :=
  Ends.cfg rfl (Ends.turn (c := cS) cS_ok (gds [(195,false)]) (atReg 43) 300 [0, 1, 2] [0, 1, 2, 3, 4, 18, 20, 24] (ps := [decide (a < st) = false, decide (a < st) = false, decide (a < st) = false, decide (a < st) = false]) (by kernel_rfl) (by
    (try simp only [AllP, Int.toNat_natCast, ints_len, decide_eq_true_eq, decide_eq_false_iff_not, beq_eq_false_iff_ne, beq_iff_eq, bne_iff_ne, bne_eq_false_iff_eq, Bool.not_eq_true', Bool.not_eq_false', Int.not_lt, Int.not_le, gt_iff_lt, ge_iff_le, ne_eq, and_true, true_and, unI_ints, Nat.zero_add, List.length_set, Nat.le_refl, hf_raw])
    all_goals (repeat' (first | with_reducible assumption | with_reducible rfl | omega | with_reducible exact ints_get (by omega) | with_reducible apply And.intro | unfold inInt | with_reducible exact isInts_ints _))) (Ends.cfg rfl h))
theorem symK_D2_no2 {cn : List Int} {xs : List Int} {a m b mid st en : Int} {Q : V → Aev.Rows → Prop} (h1 : a < st) (h2 : mid ≤ st) (h : Ends c0 3 (HD3 xs.length xs (TK cn) a m b mid st en) Q) : Ends c0 3 (HD2 xs.length xs (TK cn) a m b mid st en) Q :=
  Ends.cfg rfl (Ends.turn (c := cS) cS_ok (gds [(195,true),(199,false)]) (atReg 43) 300 [0, 1, 2] [0, 1, 2, 3, 4, 18, 20, 24] (ps := [decide (a < st) = true, decide (a < st) = true, decide (a < st) = true, decide (a < st) = true, decide (st < mid) = false]) (by kernel_rfl) (by
    (try simp only [AllP, Int.toNat_natCast, ints_len, decide_eq_true_eq, decide_eq_false_iff_not, beq_eq_false_iff_ne, beq_iff_eq, bne_iff_ne, bne_eq_false_iff_eq, Bool.not_eq_true', Bool.not_eq_false', Int.not_lt, Int.not_le, gt_iff_lt, ge_iff_le, ne_eq, and_true, true_and, unI_ints, Nat.zero_add, List.length_set, Nat.le_refl, hf_raw])
    all_goals (repeat' (first | with_reducible assumption | with_reducible rfl | omega | with_reducible exact ints_get (by omega) | with_reducible apply And.intro | unfold inInt | with_reducible exact isInts_ints _))) (Ends.cfg rfl h))
theorem symK_D3_yes {cn : List Int} {xs : List Int} {a m b mid st en : Int} {P : List Int → Prop} {Q : V → Aev.Rows → Prop} (h1 : mid < en) (h2 : en < b) (hd : SortDoes 114 3 [I mid, I en, I b] (TK cn) (xs) (P)) (h : ∀ xs' : List Int, xs'.length = (xs).length → (P) xs' → Q (.tup []) (RW xs' :: (TK cn))) : Ends c0 3 (HD3 xs.length xs (TK cn) a m b mid st en) Q :=
  Ends.cfg rfl (Ends.to (c := cS) cS_ok (gds [(209,true),(213,true)]) (atOp 6 4) 300 (s' := (nextOf (sTo cS (gds [(209,true),(213,true)]) (atOp 6 4) 300 (HD3 xs.length xs (TK cn) a m b mid st en)))) (ps := [decide (mid < en) = true, decide (mid < en) = true, decide (mid < en) = true, decide (mid < en) = true, decide (en < b) = true]) (by kernel_rfl) (by
    (try simp only [AllP, Int.toNat_natCast, ints_len, decide_eq_true_eq, decide_eq_false_iff_not, beq_eq_false_iff_ne, beq_iff_eq, bne_iff_ne, bne_eq_false_iff_eq, Bool.not_eq_true', Bool.not_eq_false', Int.not_lt, Int.not_le, gt_iff_lt, ge_iff_le, ne_eq, and_true, true_and, unI_ints, Nat.zero_add, List.length_set, Nat.le_refl, hf_raw])
    all_goals (repeat' (first | with_reducible assumption | with_reducible rfl | omega | with_reducible exact ints_get (by omega) | with_reducible apply And.intro | unfold inInt | with_reducible exact isInts_ints _)))
    (Ends.callS (args := [I mid, I en, I b]) (T := (TK cn)) (xs := xs) (rs := [0, 1, 2]) cS_ok rfl (by kernel_rfl) hd (fun xs' => by kernel_rfl) fun xs' hl' hp' =>
    Ends.fin (c := cS) cS_ok (gds []) 300 (ps := []) (v := .tup []) (rows := RW xs' :: (TK cn)) (by kernel_rfl) (by
    (try simp only [AllP, Int.toNat_natCast, ints_len, decide_eq_true_eq, decide_eq_false_iff_not, beq_eq_false_iff_ne, beq_iff_eq, bne_iff_ne, bne_eq_false_iff_eq, Bool.not_eq_true', Bool.not_eq_false', Int.not_lt, Int.not_le, gt_iff_lt, ge_iff_le, ne_eq, and_true, true_and, unI_ints, Nat.zero_add, List.length_set, Nat.le_refl, hf_raw])
    all_goals (repeat' (first | with_reducible assumption | with_reducible rfl | omega | with_reducible exact ints_get (by omega) | with_reducible apply And.intro | unfold inInt | with_reducible exact isInts_ints _))) (h xs' hl' hp')))
theorem symK_D3_no1 {cn : List Int} {xs : List Int} {a m b mid st en : Int} {Q : V → Aev.Rows → Prop} (h1 : en ≤ mid) (h : Q (.tup []) (RW xs :: (TK cn))) : Ends c0 3 (HD3 xs.length xs (TK cn) a m b mid st en) Q :=
  Ends.cfg rfl (Ends.fin (c := cS) cS_ok (gds [(209,false)]) 300 (ps := [decide (mid < en) = false, decide (mid < en) = false, decide (mid < en) = false, decide (mid < en) = false]) (by kernel_rfl) (by
    (try simp only [AllP, Int.toNat_natCast, ints_len, decide_eq_true_eq, decide_eq_false_iff_not, beq_eq_false_iff_ne, beq_iff_eq, bne_iff_ne, bne_eq_false_iff_eq, Bool.not_eq_true', Bool.not_eq_false', Int.not_lt, Int.not_le, gt_iff_lt, ge_iff_le, ne_eq, and_true, true_and, unI_ints, Nat.zero_add, List.length_set, Nat.le_refl, hf_raw])
    all_goals (repeat' (first | with_reducible assumption | with_reducible rfl | omega | with_reducible exact ints_get (by omega) | with_reducible apply And.intro | unfold inInt | with_reducible exact isInts_ints _))) h)
theorem symK_D3_no2 {cn : List Int} {xs : List Int} {a m b mid st en : Int} {Q : V → Aev.Rows → Prop} (h1 : mid < en) (h2 : b ≤ en) (h : Q (.tup []) (RW xs :: (TK cn))) : Ends c0 3 (HD3 xs.length xs (TK cn) a m b mid st en) Q :=
  Ends.cfg rfl (Ends.fin (c := cS) cS_ok (gds [(209,true),(213,false)]) 300 (ps := [decide (mid < en) = true, decide (mid < en) = true, decide (mid < en) = true, decide (mid < en) = true, decide (en < b) = false]) (by kernel_rfl) (by
    (try simp only [AllP, Int.toNat_natCast, ints_len, decide_eq_true_eq, decide_eq_false_iff_not, beq_eq_false_iff_ne, beq_iff_eq, bne_iff_ne, bne_eq_false_iff_eq, Bool.not_eq_true', Bool.not_eq_false', Int.not_lt, Int.not_le, gt_iff_lt, ge_iff_le, ne_eq, and_true, true_and, unI_ints, Nat.zero_add, List.length_set, Nat.le_refl, hf_raw])
    all_goals (repeat' (first | with_reducible assumption | with_reducible rfl | omega | with_reducible exact ints_get (by omega) | with_reducible apply And.intro | unfold inInt | with_reducible exact isInts_ints _))) h)
end Go.Aev.M33
end
