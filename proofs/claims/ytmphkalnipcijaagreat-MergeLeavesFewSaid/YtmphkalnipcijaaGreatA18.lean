/- Lemmas for the statements of this seat: an abstract machine that the model follows, and contracts of functions. Conditions: none. -/
import Derived.Test.YtmphkalnipcijaaGreatA17
import Derived.Test.YtmphkalnipcijaaGreatA15
set_option linter.unusedVariables false
set_option linter.unusedSimpArgs false
/- M33MPick3 -/
section
namespace Go.Aev.M33
set_option maxRecDepth 1000000
set_option linter.unusedSimpArgs false
set_option linter.unusedVariables false
theorem mp_out {a : List Int} {l0 l1 l2 l3 l4 : List Int}  {Q : V → Aev.Rows → Prop}  (h : Ends c0 0 (HQ false false false false false false a 0 l0 l1 l2 l3 l4) Q) : Ends c0 0 (HM a (a.length : Int) l0 l1 l2 l3 l4) Q := by
  cases l0 <;> cases l1 <;> cases l2 <;> cases l3 <;> cases l4 <;> exact Ends.cfg rfl (Ends.turn (c := cP 0) (cP_ok 0) (gds [(15,false)]) (atLoop 3) 300 [0, 2, 3, 4, 5, 6] [1, 2, 30, 31] (ps := [decide ((↑(List.length a) : Int) < (↑(List.length (ints a)) : Int)) = false]) (by kernel_rfl) (by
    (try simp only [AllP, Int.toNat_natCast, ints_len, decide_eq_true_eq, decide_eq_false_iff_not, beq_eq_false_iff_ne, beq_iff_eq, bne_iff_ne, bne_eq_false_iff_eq, Bool.not_eq_true', Bool.not_eq_false', Int.not_lt, Int.not_le, gt_iff_lt, ge_iff_le, ne_eq, and_true, true_and, unI_ints, Nat.zero_add, List.length_set, Nat.le_refl, List.length_cons, ints_all, List.length_take, List.drop_zero])
    all_goals (repeat' (first | with_reducible assumption | with_reducible rfl | omega | with_reducible exact ints_get (by omega) | with_reducible apply And.intro | unfold inInt | with_reducible exact isInts_ints _))) (Ends.cfg rfl h))
theorem mq0_nil {a : List Int} {fb f0 f1 f2 f3 f4 : Bool} {l1 : List Int} {l2 : List Int} {l3 : List Int} {l4 : List Int}  {Q : V → Aev.Rows → Prop}  (h : Ends c0 0 (HQ fb f0 f1 f2 f3 f4 a 1 [] l1 l2 l3 l4) Q) : Ends c0 0 (HQ fb f0 f1 f2 f3 f4 a 0 [] l1 l2 l3 l4) Q := by
  cases l1 <;> cases l2 <;> cases l3 <;> cases l4 <;> exact Ends.cfg rfl (Ends.turn (c := cP 0) (cP_ok 0) (gds [(32,true),(36,true)]) (atLoop 3) 300 [0, 1, 2, 3, 4, 5] [1, 2, 30, 31] (ps := [true = true, true = true, inInt (1 : Int)]) (by kernel_rfl) (by
    (try simp only [AllP, Int.toNat_natCast, ints_len, decide_eq_true_eq, decide_eq_false_iff_not, beq_eq_false_iff_ne, beq_iff_eq, bne_iff_ne, bne_eq_false_iff_eq, Bool.not_eq_true', Bool.not_eq_false', Int.not_lt, Int.not_le, gt_iff_lt, ge_iff_le, ne_eq, and_true, true_and, unI_ints, Nat.zero_add, List.length_set, Nat.le_refl, List.length_cons, ints_all, List.length_take, List.drop_zero])
    all_goals (repeat' (first | with_reducible assumption | with_reducible rfl | omega | with_reducible exact ints_get (by omega) | with_reducible apply And.intro | unfold inInt | with_reducible exact isInts_ints _))) (Ends.cfg rfl h))
theorem mq0_short {a : List Int} {fb f0 f1 f2 f3 f4 : Bool} {l1 : List Int} {l2 : List Int} {l3 : List Int} {l4 : List Int} {x : Int} {l : List Int}  {Q : V → Aev.Rows → Prop} (h0 : l.length + 1 < 4) (h : Ends c0 0 (HQ fb f0 f1 f2 f3 f4 a 1 (x :: l) l1 l2 l3 l4) Q) : Ends c0 0 (HQ fb f0 f1 f2 f3 f4 a 0 (x :: l) l1 l2 l3 l4) Q := by
  cases l1 <;> cases l2 <;> cases l3 <;> cases l4 <;> exact Ends.cfg rfl (Ends.turn (c := cP 0) (cP_ok 0) (gds [(32,true),(36,true)]) (atLoop 3) 300 [0, 1, 2, 3, 4, 5] [1, 2, 30, 31] (ps := [true = true, decide ((↑(List.length (x :: l)) : Int) < (4 : Int)) = true, inInt (1 : Int)]) (by kernel_rfl) (by
    (try simp only [AllP, Int.toNat_natCast, ints_len, decide_eq_true_eq, decide_eq_false_iff_not, beq_eq_false_iff_ne, beq_iff_eq, bne_iff_ne, bne_eq_false_iff_eq, Bool.not_eq_true', Bool.not_eq_false', Int.not_lt, Int.not_le, gt_iff_lt, ge_iff_le, ne_eq, and_true, true_and, unI_ints, Nat.zero_add, List.length_set, Nat.le_refl, List.length_cons, ints_all, List.length_take, List.drop_zero])
    all_goals (repeat' (first | with_reducible assumption | with_reducible rfl | omega | with_reducible exact ints_get (by omega) | with_reducible apply And.intro | unfold inInt | with_reducible exact isInts_ints _))) (Ends.cfg rfl h))
theorem mq0_long {a : List Int} {fb f0 f1 f2 f3 f4 : Bool} {l1 : List Int} {l2 : List Int} {l3 : List Int} {l4 : List Int} {x : Int} {l : List Int}  {Q : V → Aev.Rows → Prop} (h0 : 4 ≤ l.length + 1) (hb : l.length + 1 ≤ 1073741824) (hd : ∀ y ∈ x :: l, 0 ≤ y ∧ y < (a.length : Int)) (hA : Asc (x :: l) 0 ((l.length + 1 : Nat) : Int)) (h4 : 4 ≤ (srt (kyK a) (x :: l)).length) (h : Ends c0 0 (HT true true f1 f2 f3 f4 a 0 (x :: l) l1 l2 l3 l4 (List.take 4 (List.drop 0 (ints (srt (kyK ((ints a).map unI)) ((ints (x :: l)).map unI))))) ((List.take 4 (List.drop 0 (ints (srt (kyK ((ints a).map unI)) ((ints (x :: l)).map unI))))).length : Int) 0 0) Q) : Ends c0 0 (HQ fb f0 f1 f2 f3 f4 a 0 (x :: l) l1 l2 l3 l4) Q := by
  cases l1 <;> cases l2 <;> cases l3 <;> cases l4 <;> cases fb <;> cases f0 <;> exact Ends.cfg rfl (Ends.turn (c := cP 0) (cP_ok 0) (gds [(32,true),(36,false)]) (atLoop 8) 300 [0, 1, 2, 3, 4, 5] [1, 2, 8, 9, 30, 31, 41, 42, 43] (ps := [true = true, decide ((↑(List.length (x :: l)) : Int) < (4 : Int)) = false, isInts (ints (x :: l)), isInts (ints a), List.length (x :: l) = List.length (ints (x :: l)) ∧   List.length (x :: l) = List.length (ints (x :: l)) ∧     nat_lit 0 < List.length (ints (x :: l)) ∧ List.length (ints (x :: l)) ≤ nat_lit 1073741824, ∀ (x_1 : Int),   x_1 ∈ List.map unI (ints (x :: l)) → (0 : Int) ≤ x_1 ∧ x_1 < (↑(List.length (List.map unI (ints a))) : Int), Asc (List.map unI (ints (x :: l))) (0 : Int) (↑(List.length (List.map unI (ints (x :: l)))) : Int), (0 : Int) ≤ (4 : Int), nat_lit 0 ≤ nat_lit 4 ∧   nat_lit 4 ≤ List.length (ints (srt (kyK (List.map unI (ints a))) (List.map unI (ints (x :: l))))), (List.all (ints (srt (kyK (List.map unI (ints a))) (List.map unI (ints (x :: l))))) fun e =>     List.length (D.cells e) == nat_lit 1) =   true]) (by kernel_rfl) (by
    (try simp only [AllP, Int.toNat_natCast, ints_len, decide_eq_true_eq, decide_eq_false_iff_not, beq_eq_false_iff_ne, beq_iff_eq, bne_iff_ne, bne_eq_false_iff_eq, Bool.not_eq_true', Bool.not_eq_false', Int.not_lt, Int.not_le, gt_iff_lt, ge_iff_le, ne_eq, and_true, true_and, unI_ints, Nat.zero_add, List.length_set, Nat.le_refl, List.length_cons, ints_all, List.length_take, List.drop_zero])
    all_goals (repeat' (first | with_reducible assumption | with_reducible rfl | omega | with_reducible exact ints_get (by omega) | with_reducible apply And.intro | unfold inInt | with_reducible exact isInts_ints _))) (Ends.cfg rfl h))
theorem mq1_nil {a : List Int} {fb f0 f1 f2 f3 f4 : Bool} {l0 : List Int} {l2 : List Int} {l3 : List Int} {l4 : List Int}  {Q : V → Aev.Rows → Prop}  (h : Ends c0 0 (HQ fb f0 f1 f2 f3 f4 a 2 l0 [] l2 l3 l4) Q) : Ends c0 0 (HQ fb f0 f1 f2 f3 f4 a 1 l0 [] l2 l3 l4) Q := by
  cases l0 <;> cases l2 <;> cases l3 <;> cases l4 <;> exact Ends.cfg rfl (Ends.turn (c := cP 0) (cP_ok 0) (gds [(32,true),(36,true)]) (atLoop 3) 300 [0, 1, 2, 3, 4, 5] [1, 2, 30, 31] (ps := [true = true, true = true, inInt (2 : Int)]) (by kernel_rfl) (by
    (try simp only [AllP, Int.toNat_natCast, ints_len, decide_eq_true_eq, decide_eq_false_iff_not, beq_eq_false_iff_ne, beq_iff_eq, bne_iff_ne, bne_eq_false_iff_eq, Bool.not_eq_true', Bool.not_eq_false', Int.not_lt, Int.not_le, gt_iff_lt, ge_iff_le, ne_eq, and_true, true_and, unI_ints, Nat.zero_add, List.length_set, Nat.le_refl, List.length_cons, ints_all, List.length_take, List.drop_zero])
    all_goals (repeat' (first | with_reducible assumption | with_reducible rfl | omega | with_reducible exact ints_get (by omega) | with_reducible apply And.intro | unfold inInt | with_reducible exact isInts_ints _))) (Ends.cfg rfl h))
theorem mq1_short {a : List Int} {fb f0 f1 f2 f3 f4 : Bool} {l0 : List Int} {l2 : List Int} {l3 : List Int} {l4 : List Int} {x : Int} {l : List Int}  {Q : V → Aev.Rows → Prop} (h0 : l.length + 1 < 4) (h : Ends c0 0 (HQ fb f0 f1 f2 f3 f4 a 2 l0 (x :: l) l2 l3 l4) Q) : Ends c0 0 (HQ fb f0 f1 f2 f3 f4 a 1 l0 (x :: l) l2 l3 l4) Q := by
  cases l0 <;> cases l2 <;> cases l3 <;> cases l4 <;> exact Ends.cfg rfl (Ends.turn (c := cP 0) (cP_ok 0) (gds [(32,true),(36,true)]) (atLoop 3) 300 [0, 1, 2, 3, 4, 5] [1, 2, 30, 31] (ps := [true = true, decide ((↑(List.length (x :: l)) : Int) < (4 : Int)) = true, inInt (2 : Int)]) (by kernel_rfl) (by
    (try simp only [AllP, Int.toNat_natCast, ints_len, decide_eq_true_eq, decide_eq_false_iff_not, beq_eq_false_iff_ne, beq_iff_eq, bne_iff_ne, bne_eq_false_iff_eq, Bool.not_eq_true', Bool.not_eq_false', Int.not_lt, Int.not_le, gt_iff_lt, ge_iff_le, ne_eq, and_true, true_and, unI_ints, Nat.zero_add, List.length_set, Nat.le_refl, List.length_cons, ints_all, List.length_take, List.drop_zero])
    all_goals (repeat' (first | with_reducible assumption | with_reducible rfl | omega | with_reducible exact ints_get (by omega) | with_reducible apply And.intro | unfold inInt | with_reducible exact isInts_ints _))) (Ends.cfg rfl h))
theorem mq1_long {a : List Int} {fb f0 f1 f2 f3 f4 : Bool} {l0 : List Int} {l2 : List Int} {l3 : List Int} {l4 : List Int} {x : Int} {l : List Int}  {Q : V → Aev.Rows → Prop} (h0 : 4 ≤ l.length + 1) (hb : l.length + 1 ≤ 1073741824) (hd : ∀ y ∈ x :: l, 0 ≤ y ∧ y < (a.length : Int)) (hA : Asc (x :: l) 0 ((l.length + 1 : Nat) : Int)) (h4 : 4 ≤ (srt (kyK a) (x :: l)).length) (h : Ends c0 0 (HT true f0 true f2 f3 f4 a 1 l0 (x :: l) l2 l3 l4 (List.take 4 (List.drop 0 (ints (srt (kyK ((ints a).map unI)) ((ints (x :: l)).map unI))))) ((List.take 4 (List.drop 0 (ints (srt (kyK ((ints a).map unI)) ((ints (x :: l)).map unI))))).length : Int) 0 0) Q) : Ends c0 0 (HQ fb f0 f1 f2 f3 f4 a 1 l0 (x :: l) l2 l3 l4) Q := by
  cases l0 <;> cases l2 <;> cases l3 <;> cases l4 <;> cases fb <;> cases f1 <;> exact Ends.cfg rfl (Ends.turn (c := cP 0) (cP_ok 0) (gds [(32,true),(36,false)]) (atLoop 8) 300 [0, 1, 2, 3, 4, 5] [1, 2, 8, 9, 30, 31, 41, 42, 43] (ps := [true = true, decide ((↑(List.length (x :: l)) : Int) < (4 : Int)) = false, isInts (ints (x :: l)), isInts (ints a), List.length (x :: l) = List.length (ints (x :: l)) ∧   List.length (x :: l) = List.length (ints (x :: l)) ∧     nat_lit 0 < List.length (ints (x :: l)) ∧ List.length (ints (x :: l)) ≤ nat_lit 1073741824, ∀ (x_1 : Int),   x_1 ∈ List.map unI (ints (x :: l)) → (0 : Int) ≤ x_1 ∧ x_1 < (↑(List.length (List.map unI (ints a))) : Int), Asc (List.map unI (ints (x :: l))) (0 : Int) (↑(List.length (List.map unI (ints (x :: l)))) : Int), (0 : Int) ≤ (4 : Int), nat_lit 0 ≤ nat_lit 4 ∧   nat_lit 4 ≤ List.length (ints (srt (kyK (List.map unI (ints a))) (List.map unI (ints (x :: l))))), (List.all (ints (srt (kyK (List.map unI (ints a))) (List.map unI (ints (x :: l))))) fun e =>     List.length (D.cells e) == nat_lit 1) =   true]) (by kernel_rfl) (by
    (try simp only [AllP, Int.toNat_natCast, ints_len, decide_eq_true_eq, decide_eq_false_iff_not, beq_eq_false_iff_ne, beq_iff_eq, bne_iff_ne, bne_eq_false_iff_eq, Bool.not_eq_true', Bool.not_eq_false', Int.not_lt, Int.not_le, gt_iff_lt, ge_iff_le, ne_eq, and_true, true_and, unI_ints, Nat.zero_add, List.length_set, Nat.le_refl, List.length_cons, ints_all, List.length_take, List.drop_zero])
    all_goals (repeat' (first | with_reducible assumption | with_reducible rfl | omega | with_reducible exact ints_get (by omega) | with_reducible apply And.intro | unfold inInt | with_reducible exact isInts_ints _))) (Ends.cfg rfl h))
theorem mq2_nil {a : List Int} {fb f0 f1 f2 f3 f4 : Bool} {l0 : List Int} {l1 : List Int} {l3 : List Int} {l4 : List Int}  {Q : V → Aev.Rows → Prop}  (h : Ends c0 0 (HQ fb f0 f1 f2 f3 f4 a 3 l0 l1 [] l3 l4) Q) : Ends c0 0 (HQ fb f0 f1 f2 f3 f4 a 2 l0 l1 [] l3 l4) Q := by
  cases l0 <;> cases l1 <;> cases l3 <;> cases l4 <;> exact Ends.cfg rfl (Ends.turn (c := cP 0) (cP_ok 0) (gds [(32,true),(36,true)]) (atLoop 3) 300 [0, 1, 2, 3, 4, 5] [1, 2, 30, 31] (ps := [true = true, true = true, inInt (3 : Int)]) (by kernel_rfl) (by
    (try simp only [AllP, Int.toNat_natCast, ints_len, decide_eq_true_eq, decide_eq_false_iff_not, beq_eq_false_iff_ne, beq_iff_eq, bne_iff_ne, bne_eq_false_iff_eq, Bool.not_eq_true', Bool.not_eq_false', Int.not_lt, Int.not_le, gt_iff_lt, ge_iff_le, ne_eq, and_true, true_and, unI_ints, Nat.zero_add, List.length_set, Nat.le_refl, List.length_cons, ints_all, List.length_take, List.drop_zero])
    all_goals (repeat' (first | with_reducible assumption | with_reducible rfl | omega | with_reducible exact ints_get (by omega) | with_reducible apply And.intro | unfold inInt | with_reducible exact isInts_ints _))) (Ends.cfg rfl h))
theorem mq2_short {a : List Int} {fb f0 f1 f2 f3 f4 : Bool} {l0 : List Int} {l1 : List Int} {l3 : List Int} {l4 : List Int} {x : Int} {l : List Int}  {Q : V → Aev.Rows → Prop} (h0 : l.length + 1 < 4) (h : Ends c0 0 (HQ fb f0 f1 f2 f3 f4 a 3 l0 l1 (x :: l) l3 l4) Q) : Ends c0 0 (HQ fb f0 f1 f2 f3 f4 a 2 l0 l1 (x :: l) l3 l4) Q := by
  cases l0 <;> cases l1 <;> cases l3 <;> cases l4 <;> exact Ends.cfg rfl (Ends.turn (c := cP 0) (cP_ok 0) (gds [(32,true),(36,true)]) (atLoop 3) 300 [0, 1, 2, 3, 4, 5] [1, 2, 30, 31] (ps := [true = true, decide ((↑(List.length (x :: l)) : Int) < (4 : Int)) = true, inInt (3 : Int)]) (by kernel_rfl) (by
    (try simp only [AllP, Int.toNat_natCast, ints_len, decide_eq_true_eq, decide_eq_false_iff_not, beq_eq_false_iff_ne, beq_iff_eq, bne_iff_ne, bne_eq_false_iff_eq, Bool.not_eq_true', Bool.not_eq_false', Int.not_lt, Int.not_le, gt_iff_lt, ge_iff_le, ne_eq, and_true, true_and, unI_ints, Nat.zero_add, List.length_set, Nat.le_refl, List.length_cons, ints_all, List.length_take, List.drop_zero])
    all_goals (repeat' (first | with_reducible assumption | with_reducible rfl | omega | with_reducible exact ints_get (by omega) | with_reducible apply And.intro | unfold inInt | with_reducible exact isInts_ints _))) (Ends.cfg rfl h))
theorem mq2_long {a : List Int} {fb f0 f1 f2 f3 f4 : Bool} {l0 : List Int} {l1 : List Int} {l3 : List Int} {l4 : List Int} {x : Int} {l : List Int}  {Q : V → Aev.Rows → Prop} (h0 : 4 ≤ l.length + 1) (hb : l.length + 1 ≤ 1073741824) (hd : ∀ y ∈ x :: l, 0 ≤ y ∧ y < (a.length : Int)) (hA : Asc (x :: l) 0 ((l.length + 1 : Nat) : Int)) (h4 : 4 ≤ (srt (kyK a) (x :: l)).length) (h : Ends c0 0 (HT true f0 f1 true f3 f4 a 2 l0 l1 (x :: l) l3 l4 (List.take 4 (List.drop 0 (ints (srt (kyK ((ints a).map unI)) ((ints (x :: l)).map unI))))) ((List.take 4 (List.drop 0 (ints (srt (kyK ((ints a).map unI)) ((ints (x :: l)).map unI))))).length : Int) 0 0) Q) : Ends c0 0 (HQ fb f0 f1 f2 f3 f4 a 2 l0 l1 (x :: l) l3 l4) Q := by
  cases l0 <;> cases l1 <;> cases l3 <;> cases l4 <;> cases fb <;> cases f2 <;> exact Ends.cfg rfl (Ends.turn (c := cP 0) (cP_ok 0) (gds [(32,true),(36,false)]) (atLoop 8) 300 [0, 1, 2, 3, 4, 5] [1, 2, 8, 9, 30, 31, 41, 42, 43] (ps := [true = true, decide ((↑(List.length (x :: l)) : Int) < (4 : Int)) = false, isInts (ints (x :: l)), isInts (ints a), List.length (x :: l) = List.length (ints (x :: l)) ∧   List.length (x :: l) = List.length (ints (x :: l)) ∧     nat_lit 0 < List.length (ints (x :: l)) ∧ List.length (ints (x :: l)) ≤ nat_lit 1073741824, ∀ (x_1 : Int),   x_1 ∈ List.map unI (ints (x :: l)) → (0 : Int) ≤ x_1 ∧ x_1 < (↑(List.length (List.map unI (ints a))) : Int), Asc (List.map unI (ints (x :: l))) (0 : Int) (↑(List.length (List.map unI (ints (x :: l)))) : Int), (0 : Int) ≤ (4 : Int), nat_lit 0 ≤ nat_lit 4 ∧   nat_lit 4 ≤ List.length (ints (srt (kyK (List.map unI (ints a))) (List.map unI (ints (x :: l))))), (List.all (ints (srt (kyK (List.map unI (ints a))) (List.map unI (ints (x :: l))))) fun e =>     List.length (D.cells e) == nat_lit 1) =   true]) (by kernel_rfl) (by
    (try simp only [AllP, Int.toNat_natCast, ints_len, decide_eq_true_eq, decide_eq_false_iff_not, beq_eq_false_iff_ne, beq_iff_eq, bne_iff_ne, bne_eq_false_iff_eq, Bool.not_eq_true', Bool.not_eq_false', Int.not_lt, Int.not_le, gt_iff_lt, ge_iff_le, ne_eq, and_true, true_and, unI_ints, Nat.zero_add, List.length_set, Nat.le_refl, List.length_cons, ints_all, List.length_take, List.drop_zero])
    all_goals (repeat' (first | with_reducible assumption | with_reducible rfl | omega | with_reducible exact ints_get (by omega) | with_reducible apply And.intro | unfold inInt | with_reducible exact isInts_ints _))) (Ends.cfg rfl h))
theorem mq3_nil {a : List Int} {fb f0 f1 f2 f3 f4 : Bool} {l0 : List Int} {l1 : List Int} {l2 : List Int} {l4 : List Int}  {Q : V → Aev.Rows → Prop}  (h : Ends c0 0 (HQ fb f0 f1 f2 f3 f4 a 4 l0 l1 l2 [] l4) Q) : Ends c0 0 (HQ fb f0 f1 f2 f3 f4 a 3 l0 l1 l2 [] l4) Q := by
  cases l0 <;> cases l1 <;> cases l2 <;> cases l4 <;> exact Ends.cfg rfl (Ends.turn (c := cP 0) (cP_ok 0) (gds [(32,true),(36,true)]) (atLoop 3) 300 [0, 1, 2, 3, 4, 5] [1, 2, 30, 31] (ps := [true = true, true = true, inInt (4 : Int)]) (by kernel_rfl) (by
    (try simp only [AllP, Int.toNat_natCast, ints_len, decide_eq_true_eq, decide_eq_false_iff_not, beq_eq_false_iff_ne, beq_iff_eq, bne_iff_ne, bne_eq_false_iff_eq, Bool.not_eq_true', Bool.not_eq_false', Int.not_lt, Int.not_le, gt_iff_lt, ge_iff_le, ne_eq, and_true, true_and, unI_ints, Nat.zero_add, List.length_set, Nat.le_refl, List.length_cons, ints_all, List.length_take, List.drop_zero])
    all_goals (repeat' (first | with_reducible assumption | with_reducible rfl | omega | with_reducible exact ints_get (by omega) | with_reducible apply And.intro | unfold inInt | with_reducible exact isInts_ints _))) (Ends.cfg rfl h))
theorem mq3_short {a : List Int} {fb f0 f1 f2 f3 f4 : Bool} {l0 : List Int} {l1 : List Int} {l2 : List Int} {l4 : List Int} {x : Int} {l : List Int}  {Q : V → Aev.Rows → Prop} (h0 : l.length + 1 < 4) (h : Ends c0 0 (HQ fb f0 f1 f2 f3 f4 a 4 l0 l1 l2 (x :: l) l4) Q) : Ends c0 0 (HQ fb f0 f1 f2 f3 f4 a 3 l0 l1 l2 (x :: l) l4) Q := by
  cases l0 <;> cases l1 <;> cases l2 <;> cases l4 <;> exact Ends.cfg rfl (Ends.turn (c := cP 0) (cP_ok 0) (gds [(32,true),(36,true)]) (atLoop 3) 300 [0, 1, 2, 3, 4, 5] [1, 2, 30, 31] (ps := [true = true, decide ((↑(List.length (x :: l)) : Int) < (4 : Int)) = true, inInt (4 : Int)]) (by kernel_rfl) (by
    (try simp only [AllP, Int.toNat_natCast, ints_len, decide_eq_true_eq, decide_eq_false_iff_not, beq_eq_false_iff_ne, beq_iff_eq, bne_iff_ne, bne_eq_false_iff_eq, Bool.not_eq_true', Bool.not_eq_false', Int.not_lt, Int.not_le, gt_iff_lt, ge_iff_le, ne_eq, and_true, true_and, unI_ints, Nat.zero_add, List.length_set, Nat.le_refl, List.length_cons, ints_all, List.length_take, List.drop_zero])
    all_goals (repeat' (first | with_reducible assumption | with_reducible rfl | omega | with_reducible exact ints_get (by omega) | with_reducible apply And.intro | unfold inInt | with_reducible exact isInts_ints _))) (Ends.cfg rfl h))
theorem mq3_long {a : List Int} {fb f0 f1 f2 f3 f4 : Bool} {l0 : List Int} {l1 : List Int} {l2 : List Int} {l4 : List Int} {x : Int} {l : List Int}  {Q : V → Aev.Rows → Prop} (h0 : 4 ≤ l.length + 1) (hb : l.length + 1 ≤ 1073741824) (hd : ∀ y ∈ x :: l, 0 ≤ y ∧ y < (a.length : Int)) (hA : Asc (x :: l) 0 ((l.length + 1 : Nat) : Int)) (h4 : 4 ≤ (srt (kyK a) (x :: l)).length) (h : Ends c0 0 (HT true f0 f1 f2 true f4 a 3 l0 l1 l2 (x :: l) l4 (List.take 4 (List.drop 0 (ints (srt (kyK ((ints a).map unI)) ((ints (x :: l)).map unI))))) ((List.take 4 (List.drop 0 (ints (srt (kyK ((ints a).map unI)) ((ints (x :: l)).map unI))))).length : Int) 0 0) Q) : Ends c0 0 (HQ fb f0 f1 f2 f3 f4 a 3 l0 l1 l2 (x :: l) l4) Q := by
  cases l0 <;> cases l1 <;> cases l2 <;> cases l4 <;> cases fb <;> cases f3 <;> exact Ends.cfg rfl (Ends.turn (c := cP 0) (cP_ok 0) (gds [(32,true),(36,false)]) (atLoop 8) 300 [0, 1, 2, 3, 4, 5] [1, 2, 8, 9, 30, 31, 41, 42, 43] (ps := [true = true, decide ((↑(List.length (x :: l)) : Int) < (4 : Int)) = false, isInts (ints (x :: l)), isInts (ints a), List.length (x :: l) = List.length (ints (x :: l)) ∧   List.length (x :: l) = List.length (ints (x :: l)) ∧     nat_lit 0 < List.length (ints (x :: l)) ∧ List.length (ints (x :: l)) ≤ nat_lit 1073741824, ∀ (x_1 : Int),   x_1 ∈ List.map unI (ints (x :: l)) → (0 : Int) ≤ x_1 ∧ x_1 < (↑(List.length (List.map unI (ints a))) : Int), Asc (List.map unI (ints (x :: l))) (0 : Int) (↑(List.length (List.map unI (ints (x :: l)))) : Int), (0 : Int) ≤ (4 : Int), nat_lit 0 ≤ nat_lit 4 ∧   nat_lit 4 ≤ List.length (ints (srt (kyK (List.map unI (ints a))) (List.map unI (ints (x :: l))))), (List.all (ints (srt (kyK (List.map unI (ints a))) (List.map unI (ints (x :: l))))) fun e =>     List.length (D.cells e) == nat_lit 1) =   true]) (by kernel_rfl) (by
    (try simp only [AllP, Int.toNat_natCast, ints_len, decide_eq_true_eq, decide_eq_false_iff_not, beq_eq_false_iff_ne, beq_iff_eq, bne_iff_ne, bne_eq_false_iff_eq, Bool.not_eq_true', Bool.not_eq_false', Int.not_lt, Int.not_le, gt_iff_lt, ge_iff_le, ne_eq, and_true, true_and, unI_ints, Nat.zero_add, List.length_set, Nat.le_refl, List.length_cons, ints_all, List.length_take, List.drop_zero])
    all_goals (repeat' (first | with_reducible assumption | with_reducible rfl | omega | with_reducible exact ints_get (by omega) | with_reducible apply And.intro | unfold inInt | with_reducible exact isInts_ints _))) (Ends.cfg rfl h))
theorem mq4_nil {a : List Int} {fb f0 f1 f2 f3 f4 : Bool} {l0 : List Int} {l1 : List Int} {l2 : List Int} {l3 : List Int}  {Q : V → Aev.Rows → Prop}  (h : Ends c0 0 (HQ fb f0 f1 f2 f3 f4 a 5 l0 l1 l2 l3 []) Q) : Ends c0 0 (HQ fb f0 f1 f2 f3 f4 a 4 l0 l1 l2 l3 []) Q := by
  cases l0 <;> cases l1 <;> cases l2 <;> cases l3 <;> exact Ends.cfg rfl (Ends.turn (c := cP 0) (cP_ok 0) (gds [(32,true),(36,true)]) (atLoop 3) 300 [0, 1, 2, 3, 4, 5] [1, 2, 30, 31] (ps := [true = true, true = true, inInt (5 : Int)]) (by kernel_rfl) (by
    (try simp only [AllP, Int.toNat_natCast, ints_len, decide_eq_true_eq, decide_eq_false_iff_not, beq_eq_false_iff_ne, beq_iff_eq, bne_iff_ne, bne_eq_false_iff_eq, Bool.not_eq_true', Bool.not_eq_false', Int.not_lt, Int.not_le, gt_iff_lt, ge_iff_le, ne_eq, and_true, true_and, unI_ints, Nat.zero_add, List.length_set, Nat.le_refl, List.length_cons, ints_all, List.length_take, List.drop_zero])
    all_goals (repeat' (first | with_reducible assumption | with_reducible rfl | omega | with_reducible exact ints_get (by omega) | with_reducible apply And.intro | unfold inInt | with_reducible exact isInts_ints _))) (Ends.cfg rfl h))
theorem mq4_short {a : List Int} {fb f0 f1 f2 f3 f4 : Bool} {l0 : List Int} {l1 : List Int} {l2 : List Int} {l3 : List Int} {x : Int} {l : List Int}  {Q : V → Aev.Rows → Prop} (h0 : l.length + 1 < 4) (h : Ends c0 0 (HQ fb f0 f1 f2 f3 f4 a 5 l0 l1 l2 l3 (x :: l)) Q) : Ends c0 0 (HQ fb f0 f1 f2 f3 f4 a 4 l0 l1 l2 l3 (x :: l)) Q := by
  cases l0 <;> cases l1 <;> cases l2 <;> cases l3 <;> exact Ends.cfg rfl (Ends.turn (c := cP 0) (cP_ok 0) (gds [(32,true),(36,true)]) (atLoop 3) 300 [0, 1, 2, 3, 4, 5] [1, 2, 30, 31] (ps := [true = true, decide ((↑(List.length (x :: l)) : Int) < (4 : Int)) = true, inInt (5 : Int)]) (by kernel_rfl) (by
    (try simp only [AllP, Int.toNat_natCast, ints_len, decide_eq_true_eq, decide_eq_false_iff_not, beq_eq_false_iff_ne, beq_iff_eq, bne_iff_ne, bne_eq_false_iff_eq, Bool.not_eq_true', Bool.not_eq_false', Int.not_lt, Int.not_le, gt_iff_lt, ge_iff_le, ne_eq, and_true, true_and, unI_ints, Nat.zero_add, List.length_set, Nat.le_refl, List.length_cons, ints_all, List.length_take, List.drop_zero])
    all_goals (repeat' (first | with_reducible assumption | with_reducible rfl | omega | with_reducible exact ints_get (by omega) | with_reducible apply And.intro | unfold inInt | with_reducible exact isInts_ints _))) (Ends.cfg rfl h))
theorem mq4_long {a : List Int} {fb f0 f1 f2 f3 f4 : Bool} {l0 : List Int} {l1 : List Int} {l2 : List Int} {l3 : List Int} {x : Int} {l : List Int}  {Q : V → Aev.Rows → Prop} (h0 : 4 ≤ l.length + 1) (hb : l.length + 1 ≤ 1073741824) (hd : ∀ y ∈ x :: l, 0 ≤ y ∧ y < (a.length : Int)) (hA : Asc (x :: l) 0 ((l.length + 1 : Nat) : Int)) (h4 : 4 ≤ (srt (kyK a) (x :: l)).length) (h : Ends c0 0 (HT true f0 f1 f2 f3 true a 4 l0 l1 l2 l3 (x :: l) (List.take 4 (List.drop 0 (ints (srt (kyK ((ints a).map unI)) ((ints (x :: l)).map unI))))) ((List.take 4 (List.drop 0 (ints (srt (kyK ((ints a).map unI)) ((ints (x :: l)).map unI))))).length : Int) 0 0) Q) : Ends c0 0 (HQ fb f0 f1 f2 f3 f4 a 4 l0 l1 l2 l3 (x :: l)) Q := by
  cases l0 <;> cases l1 <;> cases l2 <;> cases l3 <;> cases fb <;> cases f4 <;> exact Ends.cfg rfl (Ends.turn (c := cP 0) (cP_ok 0) (gds [(32,true),(36,false)]) (atLoop 8) 300 [0, 1, 2, 3, 4, 5] [1, 2, 8, 9, 30, 31, 41, 42, 43] (ps := [true = true, decide ((↑(List.length (x :: l)) : Int) < (4 : Int)) = false, isInts (ints (x :: l)), isInts (ints a), List.length (x :: l) = List.length (ints (x :: l)) ∧   List.length (x :: l) = List.length (ints (x :: l)) ∧     nat_lit 0 < List.length (ints (x :: l)) ∧ List.length (ints (x :: l)) ≤ nat_lit 1073741824, ∀ (x_1 : Int),   x_1 ∈ List.map unI (ints (x :: l)) → (0 : Int) ≤ x_1 ∧ x_1 < (↑(List.length (List.map unI (ints a))) : Int), Asc (List.map unI (ints (x :: l))) (0 : Int) (↑(List.length (List.map unI (ints (x :: l)))) : Int), (0 : Int) ≤ (4 : Int), nat_lit 0 ≤ nat_lit 4 ∧   nat_lit 4 ≤ List.length (ints (srt (kyK (List.map unI (ints a))) (List.map unI (ints (x :: l))))), (List.all (ints (srt (kyK (List.map unI (ints a))) (List.map unI (ints (x :: l))))) fun e =>     List.length (D.cells e) == nat_lit 1) =   true]) (by kernel_rfl) (by
    (try simp only [AllP, Int.toNat_natCast, ints_len, decide_eq_true_eq, decide_eq_false_iff_not, beq_eq_false_iff_ne, beq_iff_eq, bne_iff_ne, bne_eq_false_iff_eq, Bool.not_eq_true', Bool.not_eq_false', Int.not_lt, Int.not_le, gt_iff_lt, ge_iff_le, ne_eq, and_true, true_and, unI_ints, Nat.zero_add, List.length_set, Nat.le_refl, List.length_cons, ints_all, List.length_take, List.drop_zero])
    all_goals (repeat' (first | with_reducible assumption | with_reducible rfl | omega | with_reducible exact ints_get (by omega) | with_reducible apply And.intro | unfold inInt | with_reducible exact isInts_ints _))) (Ends.cfg rfl h))
theorem mt_next {a w : List Int} {fb f0 f1 f2 f3 f4 : Bool} {l0 l1 l2 l3 l4 : List Int} {j n i s : Int}  {Q : V → Aev.Rows → Prop} (h0 : i < n) (h1 : 0 ≤ i) (hn : n = w.length) (hw : 0 ≤ w.getD i.toNat 0 ∧ w.getD i.toNat 0 < a.length) (hs : inInt (s + a.getD (w.getD i.toNat 0).toNat 0)) (hc : (s + a.getD (w.getD i.toNat 0).toNat 0) ≤ 4096) (hi : inInt (i + 1)) (h : Ends c0 0 (HT fb f0 f1 f2 f3 f4 a j l0 l1 l2 l3 l4 (ints w) n (i + 1) (s + a.getD (w.getD i.toNat 0).toNat 0)) Q) : Ends c0 0 (HT fb f0 f1 f2 f3 f4 a j l0 l1 l2 l3 l4 (ints w) n i s) Q := by
  cases l0 <;> cases l1 <;> cases l2 <;> cases l3 <;> cases l4 <;> exact Ends.cfg rfl (Ends.turn (c := cP 0) (cP_ok 0) (gds [(44,true),(54,false)] [(41, el w), (48, el a)]) (atLoop 8) 300 [0, 1, 2, 3, 4, 5] [1, 2, 8, 9, 30, 31, 41, 42, 43] (ps := [decide (i < n) = true, (0 : Int) ≤ i ∧ i < (↑(List.length (ints w)) : Int), (ints w)[Int.toNat i]? = some (D.int IntKind.i64 (List.getD w (Int.toNat i) (0 : Int))), nat_lit 1 = nat_lit 1, (0 : Int) ≤ List.getD w (Int.toNat i) (0 : Int) ∧ List.getD w (Int.toNat i) (0 : Int) < (↑(List.length (ints a)) : Int), (ints a)[Int.toNat (List.getD w (Int.toNat i) (0 : Int))]? =   some (D.int IntKind.i64 (List.getD a (Int.toNat (List.getD w (Int.toNat i) (0 : Int))) (0 : Int))), nat_lit 1 = nat_lit 1, inInt (s + List.getD a (Int.toNat (List.getD w (Int.toNat i) (0 : Int))) (0 : Int)), decide (s + List.getD a (Int.toNat (List.getD w (Int.toNat i) (0 : Int))) (0 : Int) > (4096 : Int)) = false, inInt (i + (1 : Int))]) (by kernel_rfl) (by
    (try simp only [AllP, Int.toNat_natCast, ints_len, decide_eq_true_eq, decide_eq_false_iff_not, beq_eq_false_iff_ne, beq_iff_eq, bne_iff_ne, bne_eq_false_iff_eq, Bool.not_eq_true', Bool.not_eq_false', Int.not_lt, Int.not_le, gt_iff_lt, ge_iff_le, ne_eq, and_true, true_and, unI_ints, Nat.zero_add, List.length_set, Nat.le_refl, List.length_cons, ints_all, List.length_take, List.drop_zero])
    all_goals (repeat' (first | with_reducible assumption | with_reducible rfl | omega | with_reducible exact ints_get (by omega) | with_reducible apply And.intro | unfold inInt | with_reducible exact isInts_ints _))) (Ends.cfg rfl h))
theorem mt_great {a w : List Int} {fb f0 f1 f2 f3 f4 : Bool} {l0 l1 l2 l3 l4 : List Int} {j n i s : Int}  {Q : V → Aev.Rows → Prop} (h0 : i < n) (h1 : 0 ≤ i) (hn : n = w.length) (hw : 0 ≤ w.getD i.toNat 0 ∧ w.getD i.toNat 0 < a.length) (hs : inInt (s + a.getD (w.getD i.toNat 0).toNat 0)) (hc : 4096 < (s + a.getD (w.getD i.toNat 0).toNat 0)) (hj : inInt (j + 1)) (h : Ends c0 0 (HQ fb f0 f1 f2 f3 f4 a (j + 1) l0 l1 l2 l3 l4) Q) : Ends c0 0 (HT fb f0 f1 f2 f3 f4 a j l0 l1 l2 l3 l4 (ints w) n i s) Q := by
  cases l0 <;> cases l1 <;> cases l2 <;> cases l3 <;> cases l4 <;> exact Ends.cfg rfl (Ends.turn (c := cP 0) (cP_ok 0) (gds [(44,true),(54,true)] [(41, el w), (48, el a)]) (atLoop 3) 300 [0, 1, 2, 3, 4, 5] [1, 2, 30, 31] (ps := [decide (i < n) = true, (0 : Int) ≤ i ∧ i < (↑(List.length (ints w)) : Int), (ints w)[Int.toNat i]? = some (D.int IntKind.i64 (List.getD w (Int.toNat i) (0 : Int))), nat_lit 1 = nat_lit 1, (0 : Int) ≤ List.getD w (Int.toNat i) (0 : Int) ∧ List.getD w (Int.toNat i) (0 : Int) < (↑(List.length (ints a)) : Int), (ints a)[Int.toNat (List.getD w (Int.toNat i) (0 : Int))]? =   some (D.int IntKind.i64 (List.getD a (Int.toNat (List.getD w (Int.toNat i) (0 : Int))) (0 : Int))), nat_lit 1 = nat_lit 1, inInt (s + List.getD a (Int.toNat (List.getD w (Int.toNat i) (0 : Int))) (0 : Int)), decide (s + List.getD a (Int.toNat (List.getD w (Int.toNat i) (0 : Int))) (0 : Int) > (4096 : Int)) = true, inInt (j + (1 : Int))]) (by kernel_rfl) (by
    (try simp only [AllP, Int.toNat_natCast, ints_len, decide_eq_true_eq, decide_eq_false_iff_not, beq_eq_false_iff_ne, beq_iff_eq, bne_iff_ne, bne_eq_false_iff_eq, Bool.not_eq_true', Bool.not_eq_false', Int.not_lt, Int.not_le, gt_iff_lt, ge_iff_le, ne_eq, and_true, true_and, unI_ints, Nat.zero_add, List.length_set, Nat.le_refl, List.length_cons, ints_all, List.length_take, List.drop_zero])
    all_goals (repeat' (first | with_reducible assumption | with_reducible rfl | omega | with_reducible exact ints_get (by omega) | with_reducible apply And.intro | unfold inInt | with_reducible exact isInts_ints _))) (Ends.cfg rfl h))
theorem mt_end {a w : List Int} {fb f0 f1 f2 f3 f4 : Bool} {l0 l1 l2 l3 l4 : List Int} {j n i s : Int}  {Q : V → Aev.Rows → Prop} (h0 : n ≤ i) (h1 : 0 < w.length) (h2 : w.length < 20) (hA : Once w) (h : ∀ rows, Q (L (srt kyN ((ints w).map unI))) rows) : Ends c0 0 (HT fb f0 f1 f2 f3 f4 a j l0 l1 l2 l3 l4 (ints w) n i s) Q := by
  cases l0 <;> cases l1 <;> cases l2 <;> cases l3 <;> cases l4 <;> exact Ends.cfg rfl (Ends.finR (c := cP 0) (cP_ok 0) (gds [(44,false)]) 300 (ps := [decide (i < n) = false, isInts (ints w), nat_lit 0 < List.length (ints w) ∧ List.length (ints w) < nat_lit 20, Once (List.map unI (ints w))]) (v := L (srt kyN ((ints w).map unI))) (by kernel_rfl) (by
    (try simp only [AllP, Int.toNat_natCast, ints_len, decide_eq_true_eq, decide_eq_false_iff_not, beq_eq_false_iff_ne, beq_iff_eq, bne_iff_ne, bne_eq_false_iff_eq, Bool.not_eq_true', Bool.not_eq_false', Int.not_lt, Int.not_le, gt_iff_lt, ge_iff_le, ne_eq, and_true, true_and, unI_ints, Nat.zero_add, List.length_set, Nat.le_refl, List.length_cons, ints_all, List.length_take, List.drop_zero])
    all_goals (repeat' (first | with_reducible assumption | with_reducible rfl | omega | with_reducible exact ints_get (by omega) | with_reducible apply And.intro | unfold inInt | with_reducible exact isInts_ints _))) h)
theorem mq_end {a : List Int} {fb f0 f1 f2 f3 f4 : Bool} {l0 l1 l2 l3 l4 : List Int}  {Q : V → Aev.Rows → Prop}  (h : ∀ rows, Q (.nil) rows) : Ends c0 0 (HQ fb f0 f1 f2 f3 f4 a 5 l0 l1 l2 l3 l4) Q := by
  cases l0 <;> cases l1 <;> cases l2 <;> cases l3 <;> cases l4 <;> exact Ends.cfg rfl (Ends.finR (c := cP 0) (cP_ok 0) (gds [(32,false)]) 300 (ps := [false = false]) (v := .nil) (by kernel_rfl) (by
    (try simp only [AllP, Int.toNat_natCast, ints_len, decide_eq_true_eq, decide_eq_false_iff_not, beq_eq_false_iff_ne, beq_iff_eq, bne_iff_ne, bne_eq_false_iff_eq, Bool.not_eq_true', Bool.not_eq_false', Int.not_lt, Int.not_le, gt_iff_lt, ge_iff_le, ne_eq, and_true, true_and, unI_ints, Nat.zero_add, List.length_set, Nat.le_refl, List.length_cons, ints_all, List.length_take, List.drop_zero])
    all_goals (repeat' (first | with_reducible assumption | with_reducible rfl | omega | with_reducible exact ints_get (by omega) | with_reducible apply And.intro | unfold inInt | with_reducible exact isInts_ints _))) h)
end Go.Aev.M33
end
/- M33PickPlain -/
section
/- Plain: the four first of a class, sorted by count and place, are the least ones. -/
namespace Go.Aev.M33
open List
set_option linter.unusedVariables false

theorem bestTo_min (a : List Int) (cl : Int) (out : List Int) : ∀ k,
    (bestTo a cl out k < 0 → ∀ i : Nat, i < k → cls (a.getD i 0) = cl → (i : Int) ∈ out) ∧
    (0 ≤ bestTo a cl out k → ∀ i : Nat, i < k → cls (a.getD i 0) = cl → (i : Int) ∉ out → (i : Int) = bestTo a cl out k ∨ lt (kyK a) (bestTo a cl out k) i)
  | 0 => ⟨fun _ i h => by omega, fun _ i h => by omega⟩
  | k + 1 => by
    obtain ⟨h1, h2⟩ := bestTo_min a cl out k
    have hbd := bestTo_bd a cl out k
    simp only [bestTo]
    generalize hb : bestTo a cl out k = b at *
    by_cases hc : better a cl out b k = true
    · rw [if_pos hc]
      unfold better at hc
      simp only [Bool.and_eq_true, Bool.or_eq_true, decide_eq_true_eq, Bool.not_eq_true', decide_eq_false_iff_not] at hc
      obtain ⟨⟨c1, c2⟩, c3⟩ := hc
      refine ⟨fun h => by omega, fun _ i hi hcl hno => ?_⟩
      by_cases hik : i = k
      · left; omega
      · right
        rcases Int.lt_or_le b 0 with hneg | hpos
        · exact absurd (h1 hneg i (by omega) hcl) hno
        · have h3 : a.getD k 0 < a.getD b.toNat 0 := by
            rcases c3 with c3 | c3
            · omega
            · exact c3
          have e1 : kyK a k = a.getD k 0 := by unfold kyK; rw [Int.toNat_natCast]
          have e2 : kyK a b = a.getD b.toNat 0 := rfl
          rcases h2 hpos i (by omega) hcl hno with h4 | h4
          · left; rw [e1, h4, e2]; exact h3
          · unfold lt at h4 ⊢
            rw [e1]; rw [e2] at h4; omega
    · rw [if_neg hc]
      refine ⟨fun h i hi hcl => ?_, fun h i hi hcl hno => ?_⟩
      · by_cases hik : i = k
        · subst hik
          apply Classical.byContradiction
          intro hno
          apply hc
          unfold better
          rw [decide_eq_true hcl, decide_eq_false hno, decide_eq_true h]; rfl
        · exact h1 h i (by omega) hcl
      · by_cases hik : i = k
        · subst hik
          right
          have h3 : a.getD b.toNat 0 ≤ a.getD i 0 := by
            apply Classical.byContradiction
            intro hl
            apply hc
            unfold better
            rw [decide_eq_true hcl, decide_eq_false hno, decide_eq_true (Int.not_le.1 hl), Bool.or_true]; rfl
          have e1 : kyK a i = a.getD i 0 := by unfold kyK; rw [Int.toNat_natCast]
          have e2 : kyK a b = a.getD b.toNat 0 := rfl
          unfold lt
          rw [e1, e2]; omega
        · exact h2 h i (by omega) hcl hno

theorem mem_clsTo {a : List Int} {j x : Int} : ∀ {k : Nat}, 0 ≤ x → x < k → cls (a.getD x.toNat 0) = j → x ∈ clsTo a j k
  | 0, h0, h1, _ => by omega
  | k + 1, h0, h1, hc => by
    simp only [clsTo]
    by_cases hx : x = k
    · subst hx
      rw [Int.toNat_natCast] at hc
      rw [if_pos hc]; simp
    · have := mem_clsTo (k := k) h0 (by omega) hc
      split
      · exact List.mem_append_left _ this
      · exact this
theorem clsTo_asc (a : List Int) (j : Int) : ∀ k, (clsTo a j k).Pairwise (· < ·)
  | 0 => .nil
  | k + 1 => by
    have ih := clsTo_asc a j k
    simp only [clsTo]
    split
    · rw [List.pairwise_append]
      refine ⟨ih, by simp, fun x hx y hy => ?_⟩
      have := (clsTo_mem hx).2.1
      simp at hy; omega
    · exact ih
theorem asc_of_pair {xs : List Int} (h : xs.Pairwise (· < ·)) : Asc xs 0 xs.length := by
  intro p q h1 h2 h3
  have e1 : nth xs p = xs[p.toNat]'(by omega) := by
    unfold nth; rw [List.getD_eq_getElem?_getD, List.getElem?_eq_getElem (by omega)]; rfl
  have e2 : nth xs q = xs[q.toNat]'(by omega) := by
    unfold nth; rw [List.getD_eq_getElem?_getD, List.getElem?_eq_getElem (by omega)]; rfl
  rw [e1, e2]
  exact List.pairwise_iff_getElem.1 h p.toNat q.toNat (by omega) (by omega) (by omega)
theorem nodup_of_asc {xs : List Int} (h : xs.Pairwise (· < ·)) : xs.Nodup := h.imp fun h => by omega

theorem srt_lt {k : Int → Int} {xs : List Int} (h : xs.Nodup) : (srt k xs).Pairwise (lt k) := by
  have h1 := srt_pair k xs
  have h2 : (srt k xs).Nodup := (srt_perm k xs).nodup_iff.2 h
  have h3 : (srt k xs).Pairwise (fun a b => lexle k a b = true ∧ a ≠ b) := List.pairwise_and_iff.2 ⟨h1, h2⟩
  refine h3.imp fun ⟨h, h'⟩ => ?_
  simp only [lexle, decide_eq_true_eq] at h
  unfold lt; omega

/-- the places of a class, by count and place -/
def S (a : List Int) (j : Int) : List Int := srt (kyK a) (clsTo a j a.length)
theorem S_nodup (a : List Int) (j : Int) : (S a j).Nodup := (srt_perm _ _).nodup_iff.2 (nodup_of_asc (clsTo_asc a j _))
theorem S_mem {a : List Int} {j x : Int} : x ∈ S a j ↔ 0 ≤ x ∧ x < a.length ∧ cls (a.getD x.toNat 0) = j := by
  unfold S
  rw [(srt_perm _ _).mem_iff]
  exact ⟨clsTo_mem, fun h => mem_clsTo h.1 h.2.1 h.2.2⟩

theorem best_S {a : List Int} {j : Int} {i : Nat} (hi : i < (S a j).length) : best a j ((S a j).take i) = (S a j)[i] := by
  have hm : (S a j)[i] ∈ S a j := List.getElem_mem _
  obtain ⟨m1, m2, m3⟩ := S_mem.1 hm
  have hn := List.pairwise_iff_getElem.1 (S_nodup a j)
  have hlt := List.pairwise_iff_getElem.1 (srt_lt (k := kyK a) (nodup_of_asc (clsTo_asc a j a.length)))
  have hno : (S a j)[i] ∉ (S a j).take i := by
    intro h
    rw [List.mem_take_iff_getElem] at h
    obtain ⟨m, hm, he⟩ := h
    exact hn m i (by omega) hi (by omega) he
  obtain ⟨b1, b2⟩ := bestTo_min a j ((S a j).take i) a.length
  have bd := bestTo_bd a j ((S a j).take i) a.length
  have e : (((S a j)[i]).toNat : Int) = (S a j)[i] := by omega
  have hpos : 0 ≤ best a j ((S a j).take i) := by
    apply Classical.byContradiction
    intro hneg
    have := b1 (by show best a j _ < 0; omega) ((S a j)[i]).toNat (by omega) m3
    rw [e] at this
    exact hno this
  obtain ⟨s1, s2⟩ := bestTo_spec a j ((S a j).take i) a.length hpos
  have hbm : best a j ((S a j).take i) ∈ S a j := S_mem.2 ⟨hpos, bd.2, s2⟩
  obtain ⟨m, hml, hme⟩ := List.getElem_of_mem hbm
  have hmi : i ≤ m := by
    apply Classical.byContradiction
    intro hlt
    apply s1
    rw [List.mem_take_iff_getElem]
    exact ⟨m, by omega, hme⟩
  have := b2 hpos ((S a j)[i]).toNat (by omega) m3 (by rw [e]; exact hno)
  rw [e] at this
  rcases this with h | h
  · exact h.symm
  · have h' : lt (kyK a) ((S a j)[m]) ((S a j)[i]) := by rw [hme]; exact h
    rcases Nat.lt_or_ge i m with hh | hh
    · have := hlt i m hi hml hh
      have h'' : lt (kyK a) ((S a j)[i]) ((S a j)[m]) := this
      unfold lt at h' h''; omega
    · have : m = i := by omega
      subst this
      exact hme.symm
theorem best_all (a : List Int) (j : Int) : best a j (S a j) < 0 := by
  apply Classical.byContradiction
  intro h
  have bd := bestTo_bd a j (S a j) a.length
  have hpos : 0 ≤ best a j (S a j) := by omega
  obtain ⟨s1, s2⟩ := bestTo_spec a j (S a j) a.length hpos
  exact s1 (S_mem.2 ⟨hpos, bd.2, s2⟩)
theorem S_pos {a : List Int} {j : Int} {i : Nat} (hi : i < (S a j).length) : 0 ≤ (S a j)[i] := (S_mem.1 (List.getElem_mem hi)).1

theorem leastS_eq (a : List Int) (j : Int) : leastS a j = if 4 ≤ (S a j).length then some ((S a j).take 4) else none := by
  have h1 : ∀ (i : Nat) (hi : i < (S a j).length), best a j ((S a j).take i) = (S a j)[i] := fun i hi => best_S hi
  have h2 := best_all a j
  have h3 : ∀ (i : Nat) (hi : i < (S a j).length), 0 ≤ (S a j)[i] := fun i hi => S_pos hi
  generalize S a j = s at *
  unfold leastS
  match s, h1, h2, h3 with
  | [], h1, h2, h3 => rw [if_pos h2]; rfl
  | [x], h1, h2, h3 =>
    have g0 : best a j [] = x := h1 0 (by simp)
    have p0 : 0 ≤ x := h3 0 (by simp)
    rw [g0, if_neg (by omega), if_pos h2]; rfl
  | [x, y], h1, h2, h3 =>
    have g0 : best a j [] = x := h1 0 (by simp)
    have p0 : 0 ≤ x := h3 0 (by simp)
    have g1 : best a j [x] = y := h1 1 (by simp)
    have p1 : 0 ≤ y := h3 1 (by simp)
    rw [g0, if_neg (by omega), g1, if_neg (by omega), if_pos h2]; rfl
  | [x, y, z], h1, h2, h3 =>
    have g0 : best a j [] = x := h1 0 (by simp)
    have p0 : 0 ≤ x := h3 0 (by simp)
    have g1 : best a j [x] = y := h1 1 (by simp)
    have p1 : 0 ≤ y := h3 1 (by simp)
    have g2 : best a j [x, y] = z := h1 2 (by simp)
    have p2 : 0 ≤ z := h3 2 (by simp)
    rw [g0, if_neg (by omega), g1, if_neg (by omega), g2, if_neg (by omega), if_pos h2]; rfl
  | x :: y :: z :: w :: t, h1, h2, h3 =>
    have g0 : best a j [] = x := h1 0 (by simp)
    have p0 : 0 ≤ x := h3 0 (by simp)
    have g1 : best a j [x] = y := h1 1 (by simp)
    have p1 : 0 ≤ y := h3 1 (by simp)
    have g2 : best a j [x, y] = z := h1 2 (by simp)
    have p2 : 0 ≤ z := h3 2 (by simp)
    have g3 : best a j [x, y, z] = w := h1 3 (by simp)
    have p3 : 0 ≤ w := h3 3 (by simp)
    rw [g0, if_neg (by omega), g1, if_neg (by omega), g2, if_neg (by omega), g3, if_neg (by omega), if_pos (by simp)]; rfl

theorem S_len (a : List Int) (j : Int) : (S a j).length = (clsTo a j a.length).length := (srt_perm _ _).length_eq
theorem leastL_none {a : List Int} {j : Int} (h : (clsTo a j a.length).length < 4) : leastL a j = [] := by
  unfold leastL
  rw [leastS_eq, if_neg (by rw [S_len]; omega)]
theorem upTo_asc (out : List Int) (k : Nat) : (upTo out k).Pairwise (· < ·) := by
  unfold upTo
  refine List.Pairwise.filter _ ?_
  rw [List.pairwise_map]
  exact List.Pairwise.imp (fun h => by omega) List.pairwise_lt_range
theorem leastL_some {a : List Int} {j : Int} (h : 4 ≤ (clsTo a j a.length).length) : leastL a j = srt kyN ((S a j).take 4) ∧ leastL a j ~ (S a j).take 4 ∧ leastL a j ≠ [] := by
  have hS : 4 ≤ (S a j).length := by rw [S_len]; exact h
  have hs : leastS a j = some ((S a j).take 4) := by rw [leastS_eq, if_pos hS]
  have e : leastL a j = upTo ((S a j).take 4) a.length := by unfold leastL; rw [hs]
  have hp : upTo ((S a j).take 4) a.length ~ (S a j).take 4 := upTo_perm ((S_nodup a j).sublist (List.take_sublist _ _)) fun i hi => by
    have := S_mem.1 (List.mem_of_mem_take hi)
    exact ⟨this.1, this.2.1⟩
  rw [e]
  refine ⟨srt_eq hp ?_, hp, ?_⟩
  · intro p q h1 h2 h3
    rw [lt_N]
    exact asc_of_pair (upTo_asc _ _) p q h1 h2 (by rw [hp.length_eq]; exact h3)
  · intro e0
    rw [e0] at hp
    have := hp.length_eq
    rw [List.length_take] at this
    simp at this; omega
theorem sumAt_perm {a p q : List Int} (h : p ~ q) : sumAt a p = sumAt a q := by
  unfold sumAt
  induction h with
  | nil => rfl
  | cons x _ ih => simp only [List.map_cons, List.sum_cons, ih]
  | swap x y l => simp only [List.map_cons, List.sum_cons]; omega
  | trans _ _ h1 h2 => exact h1.trans h2
end Go.Aev.M33
end
/- M33MPick4 -/
section
namespace Go.Aev.M33
set_option maxRecDepth 1000000
set_option linter.unusedSimpArgs false
set_option linter.unusedVariables false
open List
theorem mp_start {a : List Int} {Q : V → Aev.Rows → Prop} (hb : a.length ≤ 1073741824) (h : Ends c0 0 (HM a 0 [] [] [] [] []) Q) : Ends c0 0 (start (cP 0) 13 [L a] [.dead, .dead, .dead, .dead, .dead]) Q :=
  Ends.cfg rfl (Ends.turn (c := (cP 0)) (cP_ok 0) (gds [] [] 1) (atLoop 3) 300 [5, 6, 0, 1, 2, 3, 4] [1, 2, 3, 12, 13, 14] (ps := []) (by kernel_rfl) (by
    (try simp only [AllP, Int.toNat_natCast, ints_len, decide_eq_true_eq, decide_eq_false_iff_not, beq_eq_false_iff_ne, beq_iff_eq, bne_iff_ne, bne_eq_false_iff_eq, Bool.not_eq_true', Bool.not_eq_false', Int.not_lt, Int.not_le, gt_iff_lt, ge_iff_le, ne_eq, and_true, true_and, unI_ints, Nat.zero_add, List.length_set, Nat.le_refl, List.length_cons])
    all_goals (repeat' (first | with_reducible assumption | with_reducible rfl | omega | with_reducible exact ints_get (by omega) | with_reducible apply And.intro | unfold inInt | with_reducible exact isInts_ints _))) (Ends.cfg rfl h))

theorem sumAt_bd {a : List Int} (ha : ∀ x ∈ a, 1 ≤ x ∧ x ≤ 4096) : ∀ {p : List Int}, (∀ i ∈ p, 0 ≤ i ∧ i < a.length) → 0 ≤ sumAt a p
  | [], _ => by simp [sumAt]
  | i :: p, h => by
    have ih := sumAt_bd ha (p := p) fun j hj => h j (List.mem_cons_of_mem _ hj)
    obtain ⟨h1, h2⟩ := h i (by simp)
    have hlt : i.toNat < a.length := by omega
    have h3 := ha a[i.toNat] (List.getElem_mem _)
    have hget : a.getD i.toNat 0 = a[i.toNat] := by simp [hlt]
    simp only [sumAt, List.map_cons, List.sum_cons] at ih ⊢
    rw [hget]; omega
theorem sumAt_app (a p q : List Int) : sumAt a (p ++ q) = sumAt a p + sumAt a q := by simp [sumAt]
theorem mt_loop {a w : List Int} {fb f0 f1 f2 f3 f4 : Bool} {l0 l1 l2 l3 l4 : List Int} {j : Int} {Q : V → Aev.Rows → Prop} (ha : ∀ x ∈ a, 1 ≤ x ∧ x ≤ 4096) (hw : ∀ i ∈ w, 0 ≤ i ∧ i < a.length) (h1 : 0 < w.length) (h2 : w.length < 20) (hA : Once w) (hj : inInt (j + 1))
    (hy : sumAt a w ≤ 4096 → ∀ rows, Q (L (srt kyN w)) rows) (hn : 4096 < sumAt a w → Ends c0 0 (HQ fb f0 f1 f2 f3 f4 a (j + 1) l0 l1 l2 l3 l4) Q) :
    ∀ (n i : Nat), i + n = w.length → sumAt a (w.take i) ≤ 4096 → Ends c0 0 (HT fb f0 f1 f2 f3 f4 a j l0 l1 l2 l3 l4 (ints w) (w.length : Int) (i : Int) (sumAt a (w.take i))) Q := by
  intro n
  induction n with
  | zero =>
    intro i hi hs
    have e : w.take i = w := List.take_of_length_le (by omega)
    rw [e] at hs
    refine mt_end (by omega) h1 h2 hA fun rows => ?_
    rw [unI_ints]
    exact hy hs rows
  | succ n ih =>
    intro i hi hs
    have hlt : i < w.length := by omega
    have tn : (i : Int).toNat = i := Int.toNat_natCast i
    have hget : w.getD i 0 = w[i] := by simp [hlt]
    have hin := hw w[i] (List.getElem_mem _)
    have ht : sumAt a (w.take (i + 1)) = sumAt a (w.take i) + a.getD (w.getD (i : Int).toNat 0).toNat 0 := by
      rw [tn, List.take_succ_eq_append_getElem hlt]
      simp only [sumAt, List.map_append, List.sum_append, List.map_cons, List.map_nil, List.sum_cons, List.sum_nil, hget, Int.add_zero]
    have h0 := sumAt_bd ha (p := w.take i) fun x hx => hw x (List.mem_of_mem_take hx)
    have hx : 1 ≤ a.getD (w.getD (i : Int).toNat 0).toNat 0 ∧ a.getD (w.getD (i : Int).toNat 0).toNat 0 ≤ 4096 := by
      rw [tn, hget]
      exact ha_get ha (by omega)
    have hw' : 0 ≤ w.getD (i : Int).toNat 0 ∧ w.getD (i : Int).toNat 0 < a.length := by rw [tn, hget]; exact hin
    by_cases hc : sumAt a (w.take i) + a.getD (w.getD (i : Int).toNat 0).toNat 0 ≤ 4096
    · refine mt_next (by omega) (by omega) rfl hw' (by unfold inInt; omega) hc (by unfold inInt; omega) ?_
      have := ih (i + 1) (by omega) (by rw [ht]; exact hc)
      rw [ht] at this
      exact this
    · refine mt_great (by omega) (by omega) rfl hw' (by unfold inInt; omega) (by omega) hj (hn ?_)
      have h3 := sumAt_bd ha (p := w.drop (i + 1)) fun x hx => hw x (List.mem_of_mem_drop hx)
      have h4 := sumAt_app a (w.take (i + 1)) (w.drop (i + 1))
      rw [List.take_append_drop, ht] at h4
      omega
theorem S_take {a : List Int} {j : Int} (h : 4 ≤ (clsTo a j a.length).length) : (∀ i ∈ (S a j).take 4, 0 ≤ i ∧ i < a.length) ∧ ((S a j).take 4).length = 4 ∧ Once ((S a j).take 4) := by
  have hS : 4 ≤ (S a j).length := by rw [S_len]; exact h
  refine ⟨fun i hi => ?_, by rw [List.length_take]; omega, (S_nodup a j).sublist (List.take_sublist _ _)⟩
  have := S_mem.1 (List.mem_of_mem_take hi)
  exact ⟨this.1, this.2.1⟩

theorem mq5 {a : List Int} {fb f0 f1 f2 f3 f4 : Bool} {Q : V → Aev.Rows → Prop} (h : ∀ rows, Q (vOf (pickC a 0 5)) rows) : Ends c0 0 (HQ fb f0 f1 f2 f3 f4 a 5 (clsTo a 0 a.length) (clsTo a 1 a.length) (clsTo a 2 a.length) (clsTo a 3 a.length) (clsTo a 4 a.length)) Q := mq_end fun rows => h rows
theorem mq4 {a : List Int} (hb : a.length ≤ 1073741824) (ha : ∀ x ∈ a, 1 ≤ x ∧ x ≤ 4096) {fb f0 f1 f2 f3 f4 : Bool} {Q : V → Aev.Rows → Prop} (h : ∀ rows, Q (vOf (pickC a 1 4)) rows) : Ends c0 0 (HQ fb f0 f1 f2 f3 f4 a 4 (clsTo a 0 a.length) (clsTo a 1 a.length) (clsTo a 2 a.length) (clsTo a 3 a.length) (clsTo a 4 a.length)) Q := by
  have hlen := clsTo_len a 4 a.length
  by_cases h4 : 4 ≤ (clsTo a 4 a.length).length
  · obtain ⟨e1, e2, e3⟩ := leastL_some h4
    obtain ⟨t1, t2, t3⟩ := S_take h4
    have es : sumAt a ((S a 4).take 4) = sumAt a (leastL a (4 : Nat)) := (sumAt_perm e2).symm
    have hyes : sumAt a ((S a 4).take 4) ≤ 4096 → ∀ rows, Q (L (srt kyN ((S a 4).take 4))) rows := by
      intro hs rows
      have e : pickC a 1 4 = leastL a (4 : Nat) := by
        simp only [pickC]; rw [if_pos ⟨e3, by rw [← es]; exact hs⟩]
      have := h rows
      have e3' : leastL a (4 : Nat) ≠ [] := e3
      rw [e, vOf, if_neg e3'] at this
      have e1' : leastL a (4 : Nat) = srt kyN ((S a 4).take 4) := e1
      rw [e1'] at this
      exact this
    have hno : 4096 < sumAt a ((S a 4).take 4) → Ends c0 0 (HQ true f0 f1 f2 f3 true a ((4 : Int) + 1) (clsTo a 0 a.length) (clsTo a 1 a.length) (clsTo a 2 a.length) (clsTo a 3 a.length) (clsTo a 4 a.length)) Q := by
      intro hs
      refine mq5 fun rows => ?_
      have e : pickC a 1 4 = pickC a 0 5 := by
        rw [show pickC a 1 4 = if leastL a (4 : Nat) ≠ [] ∧ sumAt a (leastL a (4 : Nat)) ≤ 4096 then leastL a (4 : Nat) else pickC a 0 5 from rfl, if_neg (fun hh => by have := hh.2; omega)]
      rw [← e]; exact h rows
    have hA := asc_of_pair (clsTo_asc a 4 a.length)
    have hd : ∀ y ∈ clsTo a 4 a.length, 0 ≤ y ∧ y < (a.length : Int) := fun y hy => ⟨(clsTo_mem hy).1, (clsTo_mem hy).2.1⟩
    have lp := mt_loop ha t1 (by omega) (by omega) t3 (by unfold inInt; omega) hyes hno 4 0 (by omega) (by simp [sumAt])
    have hS : S a 4 = srt (kyK a) (clsTo a 4 a.length) := rfl
    have hSl := S_len a 4
    rw [t2] at lp
    rw [hS] at lp hSl
    generalize hcl : clsTo a 4 a.length = c at *
    cases c with
    | nil => simp at h4
    | cons x l =>
      refine mq4_long (by simpa using h4) (by simp at hlen; omega) hd hA (by rw [hSl]; exact h4) ?_
      rw [unI_ints, unI_ints, List.drop_zero, ints_take, ints_len, List.length_take, hSl, show min 4 (x :: l).length = 4 by omega]
      exact lp
  · have e : pickC a 1 4 = pickC a 0 5 := by
      rw [show pickC a 1 4 = if leastL a (4 : Nat) ≠ [] ∧ sumAt a (leastL a (4 : Nat)) ≤ 4096 then leastL a (4 : Nat) else pickC a 0 5 from rfl, if_neg (fun hh => hh.1 (leastL_none (j := 4) (by omega)))]
    rw [e] at h
    have hk : ∀ {g0 g1 g2 g3 g4 gb : Bool}, Ends c0 0 (HQ gb g0 g1 g2 g3 g4 a (5 : Int) (clsTo a 0 a.length) (clsTo a 1 a.length) (clsTo a 2 a.length) (clsTo a 3 a.length) (clsTo a 4 a.length)) Q := mq5 h
    generalize hcl : clsTo a 4 a.length = c at *
    cases c with
    | nil => exact mq4_nil hk
    | cons x l => exact mq4_short (by simp at h4; omega) hk
theorem mq3 {a : List Int} (hb : a.length ≤ 1073741824) (ha : ∀ x ∈ a, 1 ≤ x ∧ x ≤ 4096) {fb f0 f1 f2 f3 f4 : Bool} {Q : V → Aev.Rows → Prop} (h : ∀ rows, Q (vOf (pickC a 2 3)) rows) : Ends c0 0 (HQ fb f0 f1 f2 f3 f4 a 3 (clsTo a 0 a.length) (clsTo a 1 a.length) (clsTo a 2 a.length) (clsTo a 3 a.length) (clsTo a 4 a.length)) Q := by
  have hlen := clsTo_len a 3 a.length
  by_cases h4 : 4 ≤ (clsTo a 3 a.length).length
  · obtain ⟨e1, e2, e3⟩ := leastL_some h4
    obtain ⟨t1, t2, t3⟩ := S_take h4
    have es : sumAt a ((S a 3).take 4) = sumAt a (leastL a (3 : Nat)) := (sumAt_perm e2).symm
    have hyes : sumAt a ((S a 3).take 4) ≤ 4096 → ∀ rows, Q (L (srt kyN ((S a 3).take 4))) rows := by
      intro hs rows
      have e : pickC a 2 3 = leastL a (3 : Nat) := by
        simp only [pickC]; rw [if_pos ⟨e3, by rw [← es]; exact hs⟩]
      have := h rows
      have e3' : leastL a (3 : Nat) ≠ [] := e3
      rw [e, vOf, if_neg e3'] at this
      have e1' : leastL a (3 : Nat) = srt kyN ((S a 3).take 4) := e1
      rw [e1'] at this
      exact this
    have hno : 4096 < sumAt a ((S a 3).take 4) → Ends c0 0 (HQ true f0 f1 f2 true f4 a ((3 : Int) + 1) (clsTo a 0 a.length) (clsTo a 1 a.length) (clsTo a 2 a.length) (clsTo a 3 a.length) (clsTo a 4 a.length)) Q := by
      intro hs
      refine mq4 hb ha fun rows => ?_
      have e : pickC a 2 3 = pickC a 1 4 := by
        rw [show pickC a 2 3 = if leastL a (3 : Nat) ≠ [] ∧ sumAt a (leastL a (3 : Nat)) ≤ 4096 then leastL a (3 : Nat) else pickC a 1 4 from rfl, if_neg (fun hh => by have := hh.2; omega)]
      rw [← e]; exact h rows
    have hA := asc_of_pair (clsTo_asc a 3 a.length)
    have hd : ∀ y ∈ clsTo a 3 a.length, 0 ≤ y ∧ y < (a.length : Int) := fun y hy => ⟨(clsTo_mem hy).1, (clsTo_mem hy).2.1⟩
    have lp := mt_loop ha t1 (by omega) (by omega) t3 (by unfold inInt; omega) hyes hno 4 0 (by omega) (by simp [sumAt])
    have hS : S a 3 = srt (kyK a) (clsTo a 3 a.length) := rfl
    have hSl := S_len a 3
    rw [t2] at lp
    rw [hS] at lp hSl
    generalize hcl : clsTo a 3 a.length = c at *
    cases c with
    | nil => simp at h4
    | cons x l =>
      refine mq3_long (by simpa using h4) (by simp at hlen; omega) hd hA (by rw [hSl]; exact h4) ?_
      rw [unI_ints, unI_ints, List.drop_zero, ints_take, ints_len, List.length_take, hSl, show min 4 (x :: l).length = 4 by omega]
      exact lp
  · have e : pickC a 2 3 = pickC a 1 4 := by
      rw [show pickC a 2 3 = if leastL a (3 : Nat) ≠ [] ∧ sumAt a (leastL a (3 : Nat)) ≤ 4096 then leastL a (3 : Nat) else pickC a 1 4 from rfl, if_neg (fun hh => hh.1 (leastL_none (j := 3) (by omega)))]
    rw [e] at h
    have hk : ∀ {g0 g1 g2 g3 g4 gb : Bool}, Ends c0 0 (HQ gb g0 g1 g2 g3 g4 a (4 : Int) (clsTo a 0 a.length) (clsTo a 1 a.length) (clsTo a 2 a.length) (clsTo a 3 a.length) (clsTo a 4 a.length)) Q := mq4 hb ha h
    generalize hcl : clsTo a 3 a.length = c at *
    cases c with
    | nil => exact mq3_nil hk
    | cons x l => exact mq3_short (by simp at h4; omega) hk
theorem mq2 {a : List Int} (hb : a.length ≤ 1073741824) (ha : ∀ x ∈ a, 1 ≤ x ∧ x ≤ 4096) {fb f0 f1 f2 f3 f4 : Bool} {Q : V → Aev.Rows → Prop} (h : ∀ rows, Q (vOf (pickC a 3 2)) rows) : Ends c0 0 (HQ fb f0 f1 f2 f3 f4 a 2 (clsTo a 0 a.length) (clsTo a 1 a.length) (clsTo a 2 a.length) (clsTo a 3 a.length) (clsTo a 4 a.length)) Q := by
  have hlen := clsTo_len a 2 a.length
  by_cases h4 : 4 ≤ (clsTo a 2 a.length).length
  · obtain ⟨e1, e2, e3⟩ := leastL_some h4
    obtain ⟨t1, t2, t3⟩ := S_take h4
    have es : sumAt a ((S a 2).take 4) = sumAt a (leastL a (2 : Nat)) := (sumAt_perm e2).symm
    have hyes : sumAt a ((S a 2).take 4) ≤ 4096 → ∀ rows, Q (L (srt kyN ((S a 2).take 4))) rows := by
      intro hs rows
      have e : pickC a 3 2 = leastL a (2 : Nat) := by
        simp only [pickC]; rw [if_pos ⟨e3, by rw [← es]; exact hs⟩]
      have := h rows
      have e3' : leastL a (2 : Nat) ≠ [] := e3
      rw [e, vOf, if_neg e3'] at this
      have e1' : leastL a (2 : Nat) = srt kyN ((S a 2).take 4) := e1
      rw [e1'] at this
      exact this
    have hno : 4096 < sumAt a ((S a 2).take 4) → Ends c0 0 (HQ true f0 f1 true f3 f4 a ((2 : Int) + 1) (clsTo a 0 a.length) (clsTo a 1 a.length) (clsTo a 2 a.length) (clsTo a 3 a.length) (clsTo a 4 a.length)) Q := by
      intro hs
      refine mq3 hb ha fun rows => ?_
      have e : pickC a 3 2 = pickC a 2 3 := by
        rw [show pickC a 3 2 = if leastL a (2 : Nat) ≠ [] ∧ sumAt a (leastL a (2 : Nat)) ≤ 4096 then leastL a (2 : Nat) else pickC a 2 3 from rfl, if_neg (fun hh => by have := hh.2; omega)]
      rw [← e]; exact h rows
    have hA := asc_of_pair (clsTo_asc a 2 a.length)
    have hd : ∀ y ∈ clsTo a 2 a.length, 0 ≤ y ∧ y < (a.length : Int) := fun y hy => ⟨(clsTo_mem hy).1, (clsTo_mem hy).2.1⟩
    have lp := mt_loop ha t1 (by omega) (by omega) t3 (by unfold inInt; omega) hyes hno 4 0 (by omega) (by simp [sumAt])
    have hS : S a 2 = srt (kyK a) (clsTo a 2 a.length) := rfl
    have hSl := S_len a 2
    rw [t2] at lp
    rw [hS] at lp hSl
    generalize hcl : clsTo a 2 a.length = c at *
    cases c with
    | nil => simp at h4
    | cons x l =>
      refine mq2_long (by simpa using h4) (by simp at hlen; omega) hd hA (by rw [hSl]; exact h4) ?_
      rw [unI_ints, unI_ints, List.drop_zero, ints_take, ints_len, List.length_take, hSl, show min 4 (x :: l).length = 4 by omega]
      exact lp
  · have e : pickC a 3 2 = pickC a 2 3 := by
      rw [show pickC a 3 2 = if leastL a (2 : Nat) ≠ [] ∧ sumAt a (leastL a (2 : Nat)) ≤ 4096 then leastL a (2 : Nat) else pickC a 2 3 from rfl, if_neg (fun hh => hh.1 (leastL_none (j := 2) (by omega)))]
    rw [e] at h
    have hk : ∀ {g0 g1 g2 g3 g4 gb : Bool}, Ends c0 0 (HQ gb g0 g1 g2 g3 g4 a (3 : Int) (clsTo a 0 a.length) (clsTo a 1 a.length) (clsTo a 2 a.length) (clsTo a 3 a.length) (clsTo a 4 a.length)) Q := mq3 hb ha h
    generalize hcl : clsTo a 2 a.length = c at *
    cases c with
    | nil => exact mq2_nil hk
    | cons x l => exact mq2_short (by simp at h4; omega) hk
theorem mq1 {a : List Int} (hb : a.length ≤ 1073741824) (ha : ∀ x ∈ a, 1 ≤ x ∧ x ≤ 4096) {fb f0 f1 f2 f3 f4 : Bool} {Q : V → Aev.Rows → Prop} (h : ∀ rows, Q (vOf (pickC a 4 1)) rows) : Ends c0 0 (HQ fb f0 f1 f2 f3 f4 a 1 (clsTo a 0 a.length) (clsTo a 1 a.length) (clsTo a 2 a.length) (clsTo a 3 a.length) (clsTo a 4 a.length)) Q := by
  have hlen := clsTo_len a 1 a.length
  by_cases h4 : 4 ≤ (clsTo a 1 a.length).length
  · obtain ⟨e1, e2, e3⟩ := leastL_some h4
    obtain ⟨t1, t2, t3⟩ := S_take h4
    have es : sumAt a ((S a 1).take 4) = sumAt a (leastL a (1 : Nat)) := (sumAt_perm e2).symm
    have hyes : sumAt a ((S a 1).take 4) ≤ 4096 → ∀ rows, Q (L (srt kyN ((S a 1).take 4))) rows := by
      intro hs rows
      have e : pickC a 4 1 = leastL a (1 : Nat) := by
        simp only [pickC]; rw [if_pos ⟨e3, by rw [← es]; exact hs⟩]
      have := h rows
      have e3' : leastL a (1 : Nat) ≠ [] := e3
      rw [e, vOf, if_neg e3'] at this
      have e1' : leastL a (1 : Nat) = srt kyN ((S a 1).take 4) := e1
      rw [e1'] at this
      exact this
    have hno : 4096 < sumAt a ((S a 1).take 4) → Ends c0 0 (HQ true f0 true f2 f3 f4 a ((1 : Int) + 1) (clsTo a 0 a.length) (clsTo a 1 a.length) (clsTo a 2 a.length) (clsTo a 3 a.length) (clsTo a 4 a.length)) Q := by
      intro hs
      refine mq2 hb ha fun rows => ?_
      have e : pickC a 4 1 = pickC a 3 2 := by
        rw [show pickC a 4 1 = if leastL a (1 : Nat) ≠ [] ∧ sumAt a (leastL a (1 : Nat)) ≤ 4096 then leastL a (1 : Nat) else pickC a 3 2 from rfl, if_neg (fun hh => by have := hh.2; omega)]
      rw [← e]; exact h rows
    have hA := asc_of_pair (clsTo_asc a 1 a.length)
    have hd : ∀ y ∈ clsTo a 1 a.length, 0 ≤ y ∧ y < (a.length : Int) := fun y hy => ⟨(clsTo_mem hy).1, (clsTo_mem hy).2.1⟩
    have lp := mt_loop ha t1 (by omega) (by omega) t3 (by unfold inInt; omega) hyes hno 4 0 (by omega) (by simp [sumAt])
    have hS : S a 1 = srt (kyK a) (clsTo a 1 a.length) := rfl
    have hSl := S_len a 1
    rw [t2] at lp
    rw [hS] at lp hSl
    generalize hcl : clsTo a 1 a.length = c at *
    cases c with
    | nil => simp at h4
    | cons x l =>
      refine mq1_long (by simpa using h4) (by simp at hlen; omega) hd hA (by rw [hSl]; exact h4) ?_
      rw [unI_ints, unI_ints, List.drop_zero, ints_take, ints_len, List.length_take, hSl, show min 4 (x :: l).length = 4 by omega]
      exact lp
  · have e : pickC a 4 1 = pickC a 3 2 := by
      rw [show pickC a 4 1 = if leastL a (1 : Nat) ≠ [] ∧ sumAt a (leastL a (1 : Nat)) ≤ 4096 then leastL a (1 : Nat) else pickC a 3 2 from rfl, if_neg (fun hh => hh.1 (leastL_none (j := 1) (by omega)))]
    rw [e] at h
    have hk : ∀ {g0 g1 g2 g3 g4 gb : Bool}, Ends c0 0 (HQ gb g0 g1 g2 g3 g4 a (2 : Int) (clsTo a 0 a.length) (clsTo a 1 a.length) (clsTo a 2 a.length) (clsTo a 3 a.length) (clsTo a 4 a.length)) Q := mq2 hb ha h
    generalize hcl : clsTo a 1 a.length = c at *
    cases c with
    | nil => exact mq1_nil hk
    | cons x l => exact mq1_short (by simp at h4; omega) hk
theorem mq0 {a : List Int} (hb : a.length ≤ 1073741824) (ha : ∀ x ∈ a, 1 ≤ x ∧ x ≤ 4096) {fb f0 f1 f2 f3 f4 : Bool} {Q : V → Aev.Rows → Prop} (h : ∀ rows, Q (vOf (pickC a 5 0)) rows) : Ends c0 0 (HQ fb f0 f1 f2 f3 f4 a 0 (clsTo a 0 a.length) (clsTo a 1 a.length) (clsTo a 2 a.length) (clsTo a 3 a.length) (clsTo a 4 a.length)) Q := by
  have hlen := clsTo_len a 0 a.length
  by_cases h4 : 4 ≤ (clsTo a 0 a.length).length
  · obtain ⟨e1, e2, e3⟩ := leastL_some h4
    obtain ⟨t1, t2, t3⟩ := S_take h4
    have es : sumAt a ((S a 0).take 4) = sumAt a (leastL a (0 : Nat)) := (sumAt_perm e2).symm
    have hyes : sumAt a ((S a 0).take 4) ≤ 4096 → ∀ rows, Q (L (srt kyN ((S a 0).take 4))) rows := by
      intro hs rows
      have e : pickC a 5 0 = leastL a (0 : Nat) := by
        simp only [pickC]; rw [if_pos ⟨e3, by rw [← es]; exact hs⟩]
      have := h rows
      have e3' : leastL a (0 : Nat) ≠ [] := e3
      rw [e, vOf, if_neg e3'] at this
      have e1' : leastL a (0 : Nat) = srt kyN ((S a 0).take 4) := e1
      rw [e1'] at this
      exact this
    have hno : 4096 < sumAt a ((S a 0).take 4) → Ends c0 0 (HQ true true f1 f2 f3 f4 a ((0 : Int) + 1) (clsTo a 0 a.length) (clsTo a 1 a.length) (clsTo a 2 a.length) (clsTo a 3 a.length) (clsTo a 4 a.length)) Q := by
      intro hs
      refine mq1 hb ha fun rows => ?_
      have e : pickC a 5 0 = pickC a 4 1 := by
        rw [show pickC a 5 0 = if leastL a (0 : Nat) ≠ [] ∧ sumAt a (leastL a (0 : Nat)) ≤ 4096 then leastL a (0 : Nat) else pickC a 4 1 from rfl, if_neg (fun hh => by have := hh.2; omega)]
      rw [← e]; exact h rows
    have hA := asc_of_pair (clsTo_asc a 0 a.length)
    have hd : ∀ y ∈ clsTo a 0 a.length, 0 ≤ y ∧ y < (a.length : Int) := fun y hy => ⟨(clsTo_mem hy).1, (clsTo_mem hy).2.1⟩
    have lp := mt_loop ha t1 (by omega) (by omega) t3 (by unfold inInt; omega) hyes hno 4 0 (by omega) (by simp [sumAt])
    have hS : S a 0 = srt (kyK a) (clsTo a 0 a.length) := rfl
    have hSl := S_len a 0
    rw [t2] at lp
    rw [hS] at lp hSl
    generalize hcl : clsTo a 0 a.length = c at *
    cases c with
    | nil => simp at h4
    | cons x l =>
      refine mq0_long (by simpa using h4) (by simp at hlen; omega) hd hA (by rw [hSl]; exact h4) ?_
      rw [unI_ints, unI_ints, List.drop_zero, ints_take, ints_len, List.length_take, hSl, show min 4 (x :: l).length = 4 by omega]
      exact lp
  · have e : pickC a 5 0 = pickC a 4 1 := by
      rw [show pickC a 5 0 = if leastL a (0 : Nat) ≠ [] ∧ sumAt a (leastL a (0 : Nat)) ≤ 4096 then leastL a (0 : Nat) else pickC a 4 1 from rfl, if_neg (fun hh => hh.1 (leastL_none (j := 0) (by omega)))]
    rw [e] at h
    have hk : ∀ {g0 g1 g2 g3 g4 gb : Bool}, Ends c0 0 (HQ gb g0 g1 g2 g3 g4 a (1 : Int) (clsTo a 0 a.length) (clsTo a 1 a.length) (clsTo a 2 a.length) (clsTo a 3 a.length) (clsTo a 4 a.length)) Q := mq1 hb ha h
    generalize hcl : clsTo a 0 a.length = c at *
    cases c with
    | nil => exact mq0_nil hk
    | cons x l => exact mq0_short (by simp at h4; omega) hk
/-- what merge.Pick returns -/
theorem mpick_rcs {a : List Int} (hb : a.length ≤ 1073741824) (ha : ∀ x ∈ a, 1 ≤ x ∧ x ≤ 4096) : RCs PP 13 [L a] [] (vOf (refPick a)) := by
  have h : RCs PP 13 [L a] [.dead, .dead, .dead, .dead, .dead] (vOf (refPick a)) := by
    refine rcs_of (c := cP 0) (cP_ok 0) (by kernel_rfl) (Ends.cfg rfl (c := c0) ?_)
    refine mp_start hb ?_
    refine mp_loop hb ha (mp_out (mq0 hb ha fun rows => ?_)) a.length 0 (by omega)
    unfold vOf refPick
    split <;> rfl
  refine h.of_dead (fun r row => ?_) (.cons (.data _) .nil)
  match r with
  | 0 | 1 | 2 | 3 | 4 => simp
  | r + 5 => simp
end Go.Aev.M33
end
/- AevSym6 -/
section
/- Contracts whose answer lies in new memory alone: a call by them leaves the rows as they were. -/
namespace Go.Aev
open Go.RowKit (Below)
variable {w0 : World} {own : Own} {m : Mp} {S : Nat → Prop} {w : World} {rows : Rows}

theorem Inv.nothingD' (inv : Inv w0 own m S w rows) {rd : Rows} (hd : ∀ (r : Nat) (row : Row), rd[r]? ≠ some (.live row)) : Inv w0 own (fun _ => Option.none) S w rd :=
  ⟨fun _ _ => rfl, fun _ _ => rfl, fun r row h => absurd h (hd r row), fun r b o h => (by cases h), fun r row b o h => absurd h (hd r row), fun r r' row row' b o b' o' _ h => absurd h (hd r row), fun r row b o h => absurd h (hd r row),
    fun r row b o h => absurd h (hd r row), inv.sbnd, inv.base, inv.stb, inv.os, inv.tape, inv.output, inv.grow, inv.kept⟩

def RCsF (P : Program) (g : FuncId) (args : List V) (v : V) : Prop :=
  ∀ (w0 : World) (own : Own) (m : Mp) (S : Nat → Prop) (w : World) (vs : Array Value), Inv w0 own m S w [] → RVs m S w args vs →
    Calls P g vs w fun e w' => ∃ u, e = .returned u ∧ ∃ F : Nat → Prop, (∀ c, F c → w.heap.size ≤ c ∧ c < w'.heap.size) ∧ (∀ m2 : Mp, RV m2 F w' v u) ∧
      (∀ c, c < w.heap.size → w'.heap[c]? = w.heap[c]?) ∧ w.heap.size ≤ w'.heap.size ∧ w'.os = w.os ∧ w'.tape = w.tape ∧ w'.output = w.output

/-- an answer that lies in a row of its own, or none -/
def FreshV (rows : Rows) (v x : V) : Prop :=
  (v = .nil ∧ x = .nil) ∨ ∃ j l, v = .sl j 1 0 (ints l).length (ints l).length false ∧ rows[j]? = some (Slot.live (.dat 1 (ints l) false)) ∧ x = .d (.list (ints l))

theorem flat_ints (l : List Int) : flat (ints l) = ints l := by
  unfold flat ints
  induction l with
  | nil => rfl
  | cons a l ih => simp only [List.map_cons, List.flatMap_cons, ih]; rfl

theorem fresh_rel {own : Own} (hown : ∀ b, ¬ own b) {w' : World} {m' : Mp} {S' : Nat → Prop} {rows' : Rows} (i1 : Inv w own m' S' w' rows') {v x : V} {u : Value} (hq : FreshV rows' v x) (hv : RV m' S' w' v u) :
    ∃ F : Nat → Prop, (∀ c, F c → w.heap.size ≤ c ∧ c < w'.heap.size) ∧ ∀ m2 : Mp, RV m2 F w' x u := by
  rcases hq with ⟨rfl, rfl⟩ | ⟨j, l, rfl, hr, rfl⟩
  · cases hv
    exact ⟨fun _ => False, fun c h => h.elim, fun m2 => .nil⟩
  · cases hv with
    | sl r k off len c ex b o c' p hm hl hc he hp hb =>
    have hrel := live_rel i1 hr hm
    have hnew : w.heap.size ≤ b := by
      rcases i1.new j _ b o hr rfl hm with h | h
      · exact h
      · exact absurd h (hown b)
    refine ⟨fun c => c = b, fun c h => by subst h; exact ⟨hnew, i1.bnd _ _ _ hm⟩, fun m2 => .d _ _ ?_⟩
    obtain ⟨cs, t, e1, e2, en, e3⟩ := hrel
    by_cases hz : (ints l).length = 0
    · rw [hz]
      have : ints l = [] := List.length_eq_zero_iff.1 hz
      rw [this]; exact .emp _ _
    · have hp' : p = some ⟨b, o + 0 * 1, none⟩ := by
        rcases hp with hp | hp
        · omega
        · exact hp
      subst hp'
      have key : ∀ (j : Nat) (d : D), (flat (ints l))[j]? = some d → ∃ v, cl w' b (o + 0 * 1 + j) = some v ∧ RD (fun c => c = b) w' d v := by
        intro j d hj
        obtain ⟨v, hv, hrd⟩ := e3 j d hj
        refine ⟨v, by rw [cl_cells e1, ← hv]; congr 1, ?_⟩
        rw [flat_ints] at hj
        have hmem := List.mem_of_getElem? hj
        unfold ints at hmem
        rw [List.mem_map] at hmem
        obtain ⟨n, _, rfl⟩ := hmem
        cases hrd; exact .int _ _
      refine .row _ b (o + 0 * 1) c' 1 _ (fun j => (cl w' b (o + 0 * 1 + j)).getD Go.undef) rfl hl rfl (fun e he => e2 e he) (fun d hd => en d hd) (fun j d hj => ?_) (fun j d hj => ?_)
      · obtain ⟨v, hv, _⟩ := key j d hj
        simp only [hv, Option.getD_some]
      · obtain ⟨v, hv, hrd⟩ := key j d hj
        simp only [hv, Option.getD_some]
        exact hrd

theorem rcsF_of_does {P : Program} {g : FuncId} {k : Nat} {args : List V} {rd : Rows} (hd : ∀ (r : Nat) (row : Row), rd[r]? ≠ some (.live row)) (ha : ArgsRel [] args args) {x : V} (h : Does P g k args rd fun v rows' => FreshV rows' v x) : RCsF P g args x := by
  intro w0 own m S w vs inv hv
  have i0 := (inv.nothingD' hd).rebase (fun r row h => absurd h (hd r row))
  refine (h w ⟨fun _ => False, S⟩ _ S w vs i0 (ha.rel inv hv)).mono fun e w' ⟨u, v, rows', he, hq, m', S', i1, r1, _, _⟩ => ⟨u, he, ?_⟩
  obtain ⟨F, f1, f2⟩ := fresh_rel (fun _ h => h) i1 hq r1
  exact ⟨F, f1, f2, fun c hc => i1.kept c hc (fun h => h), i1.grow, i1.os, i1.tape, i1.output⟩

/-- over a slice of an own row that may be written -/
theorem RCsF.does {P : Program} {g : FuncId} {n c k : Nat} {ex : Bool} {es : List D} {v : V} (h : RCsF P g [.d (.list (es.take n))] v) (hn : n ≤ es.length) : Does P g k [.sl 0 1 0 n c ex] [Slot.live (.dat 1 es false)] (fun x rows' => x = v ∧ rows' = [Slot.live (.dat 1 es false)]) := by
  intro w0 own m S w vs inv hv
  obtain ⟨b, o, hm, _⟩ := inv.row 0 _ rfl
  obtain ⟨S1, i1, e1, _, _⟩ := freeze_any inv (r := 0) (k := 1) (es := es) (ro := false) rfl hm
  have ha : ArgsRel (setSlot [Slot.live (.dat 1 es false)] 0 (Slot.live (.dat 1 es true))) [.sl 0 1 0 n c ex] [.d (.list (es.take n))] :=
    .cons (.list (ps := [1 = 1 ∧ 0 + n ≤ es.length]) rfl ⟨⟨rfl, by omega⟩, trivial⟩) .nil
  have hv1 : RVs m S1 w [.sl 0 1 0 n c ex] vs := ⟨hv.1, fun j x u hx hu => (hv.2 j x u hx hu).ext e1⟩
  refine (h w0 own (fun _ => none) S1 w vs i1.nothing (ha.rel i1 hv1)).mono fun e w' ⟨u, he, F, f1, f2, hb, hs, ho, ht, hu⟩ => ?_
  obtain ⟨i2, e2⟩ := inv.called (w' := w') (S' := fun c => S c ∨ F c) hb hs (fun c h => .inl h) (fun c h => h.elim .inl fun h => .inr (f1 c h)) ho ht hu
  refine ⟨u, v, _, he, ⟨rfl, rfl⟩, m, fun c => S c ∨ F c, i2, ?_, fun r _ p h => h, e2.size⟩
  exact (f2 m).ext ⟨fun _ _ e => e, fun c h => .inr h, fun _ _ _ => rfl, fun _ => Nat.le_refl _⟩
end Go.Aev
end
/- M33Fresh -/
section
namespace Go.Aev.M33
set_option maxRecDepth 1000000
set_option linter.unusedVariables false
/-- one operation before a call of a function -/
def atCall (g : FuncId) (s : AS) : Bool := match s.fr.todo with
  | .it (.inRegion ops (_ :: i :: _)) :: _ => match ops[i]? with
    | some o => match callView o.op with
      | some (.func f, _) => Nat.beq f g
      | _ => false
    | none => false
  | _ => false
/-- an end with a slice of its own, whole -/
def finF (o : List Prop × Out) : List Prop × Option (Nat × List D) := match o.2 with
  | .done (.sl r k off l c ex) rows => match rows[r]? with
    | some (.live (.dat k' es ro)) => if Nat.beq k 1 && Nat.beq k' 1 && Nat.beq off 0 && Nat.beq l c && !ex && !ro then (o.1, some (l, es)) else (o.1, none)
    | _ => (o.1, none)
  | _ => (o.1, none)
theorem Ends.finF {c : SCfg} {k : Nat} {s : AS} {Q : V → Aev.Rows → Prop} (hc : COK c.cfg) (h : Hint) (n : Nat) {ps : List Prop} {l : Nat} {es : List D} (e : M33.finF (sRun c h n s) = (ps, some (l, es))) (hp : AllP ps)
    (hq : ∀ rows r, rows[r]? = some (Slot.live (.dat 1 es false)) → Q (.sl r 1 0 l l false) rows) : Ends c k s Q := by
  unfold M33.finF at e
  split at e
  · rename_i r kk off l' cc ex rows he
    split at e
    · rename_i k' es' ro hr
      split at e
      · rename_i hh
        injection e with e1 e2
        injection e2 with e2
        injection e2 with e3 e4
        simp only [Bool.and_eq_true, Nat.beq_eq, Bool.not_eq_true'] at hh
        obtain ⟨⟨⟨⟨⟨h1, h2⟩, h3⟩, h4⟩, h5⟩, h6⟩ := hh
        subst h1 h2 h3 h4 h5 h6 e3 e4
        exact Ends.fin hc h n (ps := ps) (v := _) (rows := rows) (by rw [← e1, ← he]) hp (hq rows r hr)
      · injection e with e1 e2; cases e2
    · injection e with e1 e2; cases e2
  · injection e with e1 e2; cases e2
end Go.Aev.M33
end
/- M33MPick5 -/
section
namespace Go.Aev.M33
set_option maxRecDepth 1000000
set_option linter.unusedSimpArgs false
set_option linter.unusedVariables false
open List
theorem mt_endF {a l0 l1 l2 l3 l4 : List Int} {fb f0 f1 f2 f3 f4 : Bool} {j n i s w0 w1 w2 w3 : Int} {P : List Int → Prop} {Q : V → Aev.Rows → Prop} (h0 : n ≤ i) (hd : SortDoes 43 2 [] TN [w0, w1, w2, w3] P) (h : ∀ xs' : List Int, xs'.length = ([w0, w1, w2, w3] : List Int).length → P xs' → ∀ rows r, rows[r]? = some (RW xs') → Q (.sl r 1 0 4 4 false) rows) : Ends c0 0 (HT fb f0 f1 f2 f3 f4 a j l0 l1 l2 l3 l4 (ints [w0, w1, w2, w3]) n i s) Q :=
  Ends.cfg rfl (Ends.to (c := cS) cS_ok (gds [(44,false)] [] 1) (atCall 43) 300 (s' := (nextOf (sTo cS (gds [(44,false)] [] 1) (atCall 43) 300 (HT fb f0 f1 f2 f3 f4 a j l0 l1 l2 l3 l4 (ints [w0, w1, w2, w3]) n i s)))) (ps := [decide (i < n) = false, ints [w0, w1, w2, w3] ≠ [], true = true, nat_lit 0 < nat_lit 1 ∧   nat_lit 4 ≠ nat_lit 0 ∧     nat_lit 1 = nat_lit 1 ∧       nat_lit 1 = nat_lit 1 ∧         nat_lit 0 ≤ nat_lit 0 ∧           ¬nat_lit 4 ≤ nat_lit 0 ∧ nat_lit 64 ≤ nat_lit 281474976710656 ∧ nat_lit 4 ≤ nat_lit 4611686018427387904]) (by kernel_rfl) (by
    (try simp only [AllP, Int.toNat_natCast, ints_len, decide_eq_true_eq, decide_eq_false_iff_not, beq_eq_false_iff_ne, beq_iff_eq, bne_iff_ne, bne_eq_false_iff_eq, Bool.not_eq_true', Bool.not_eq_false', Int.not_lt, Int.not_le, gt_iff_lt, ge_iff_le, ne_eq, and_true, true_and, unI_ints, Nat.zero_add, List.length_set, Nat.le_refl, List.length_cons, List.length_nil])
    all_goals (repeat' (first | with_reducible assumption | with_reducible rfl | omega | with_reducible exact ints_get (by omega) | with_reducible apply And.intro | unfold inInt | with_reducible exact isInts_ints _ | exact ints_ne (by simp))))
    (Ends.callS (args := []) (T := TN) (xs := [w0, w1, w2, w3]) (rs := [8, 6]) cS_ok rfl (by kernel_rfl) hd (fun xs' => by kernel_rfl) fun xs' hl' hp' =>
    Ends.finF (c := cS) cS_ok (gds []) 300 (ps := []) (l := 4) (es := ints xs') (by kernel_rfl) (by
    (try simp only [AllP, Int.toNat_natCast, ints_len, decide_eq_true_eq, decide_eq_false_iff_not, beq_eq_false_iff_ne, beq_iff_eq, bne_iff_ne, bne_eq_false_iff_eq, Bool.not_eq_true', Bool.not_eq_false', Int.not_lt, Int.not_le, gt_iff_lt, ge_iff_le, ne_eq, and_true, true_and, unI_ints, Nat.zero_add, List.length_set, Nat.le_refl, List.length_cons, List.length_nil])
    all_goals (repeat' (first | with_reducible assumption | with_reducible rfl | omega | with_reducible exact ints_get (by omega) | with_reducible apply And.intro | unfold inInt | with_reducible exact isInts_ints _ | exact ints_ne (by simp)))) (h xs' hl' hp')))

theorem mt_loopF {a w : List Int} {fb f0 f1 f2 f3 f4 : Bool} {l0 l1 l2 l3 l4 : List Int} {j : Int} {Q : V → Aev.Rows → Prop} (ha : ∀ x ∈ a, 1 ≤ x ∧ x ≤ 4096) (hw : ∀ i ∈ w, 0 ≤ i ∧ i < a.length) (h4 : w.length = 4) (hA : Once w) (hj : inInt (j + 1))
    (hy : sumAt a w ≤ 4096 → ∀ rows r, rows[r]? = some (RW (srt kyN w)) → Q (.sl r 1 0 4 4 false) rows) (hn : 4096 < sumAt a w → Ends c0 0 (HQ fb f0 f1 f2 f3 f4 a (j + 1) l0 l1 l2 l3 l4) Q) :
    ∀ (n i : Nat), i + n = w.length → sumAt a (w.take i) ≤ 4096 → Ends c0 0 (HT fb f0 f1 f2 f3 f4 a j l0 l1 l2 l3 l4 (ints w) (w.length : Int) (i : Int) (sumAt a (w.take i))) Q := by
  intro n
  induction n with
  | zero =>
    intro i hi hs
    have e : w.take i = w := List.take_of_length_le (by omega)
    rw [e] at hs
    match w, h4, hA, hi, hs, hy with
    | [w0, w1, w2, w3], h4, hA, hi, hs, hy =>
      refine mt_endF (by omega) (srt4_does hA (by simp)) fun xs' hl hp rows r hr => ?_
      have := srt_eq hp.1 hp.2
      subst this
      exact hy hs rows r hr
  | succ n ih =>
    intro i hi hs
    have hlt : i < w.length := by omega
    have tn : (i : Int).toNat = i := Int.toNat_natCast i
    have hget : w.getD i 0 = w[i] := by simp [hlt]
    have hin := hw w[i] (List.getElem_mem _)
    have ht : sumAt a (w.take (i + 1)) = sumAt a (w.take i) + a.getD (w.getD (i : Int).toNat 0).toNat 0 := by
      rw [tn, List.take_succ_eq_append_getElem hlt]
      simp only [sumAt, List.map_append, List.sum_append, List.map_cons, List.map_nil, List.sum_cons, List.sum_nil, hget, Int.add_zero]
    have h0 := sumAt_bd ha (p := w.take i) fun x hx => hw x (List.mem_of_mem_take hx)
    have hx : 1 ≤ a.getD (w.getD (i : Int).toNat 0).toNat 0 ∧ a.getD (w.getD (i : Int).toNat 0).toNat 0 ≤ 4096 := by
      rw [tn, hget]
      exact ha_get ha (by omega)
    have hw' : 0 ≤ w.getD (i : Int).toNat 0 ∧ w.getD (i : Int).toNat 0 < a.length := by rw [tn, hget]; exact hin
    by_cases hc : sumAt a (w.take i) + a.getD (w.getD (i : Int).toNat 0).toNat 0 ≤ 4096
    · refine mt_next (by omega) (by omega) rfl hw' (by unfold inInt; omega) hc (by unfold inInt; omega) ?_
      have := ih (i + 1) (by omega) (by rw [ht]; exact hc)
      rw [ht] at this
      exact this
    · refine mt_great (by omega) (by omega) rfl hw' (by unfold inInt; omega) (by omega) hj (hn ?_)
      have h3 := sumAt_bd ha (p := w.drop (i + 1)) fun x hx => hw x (List.mem_of_mem_drop hx)
      have h4 := sumAt_app a (w.take (i + 1)) (w.drop (i + 1))
      rw [List.take_append_drop, ht] at h4
      omega
/-- what comes out, in a row of its own -/
def OutF (l : List Int) (Q : V → Aev.Rows → Prop) : Prop := (l = [] → ∀ rows, Q .nil rows) ∧ (l ≠ [] → l.length = 4 → ∀ rows r, rows[r]? = some (RW l) → Q (.sl r 1 0 4 4 false) rows)

theorem mqf5 {a : List Int} {fb f0 f1 f2 f3 f4 : Bool} {Q : V → Aev.Rows → Prop} (h : OutF (pickC a 0 5) Q) : Ends c0 0 (HQ fb f0 f1 f2 f3 f4 a 5 (clsTo a 0 a.length) (clsTo a 1 a.length) (clsTo a 2 a.length) (clsTo a 3 a.length) (clsTo a 4 a.length)) Q := mq_end fun rows => h.1 rfl rows
theorem mqf4 {a : List Int} (hb : a.length ≤ 1073741824) (ha : ∀ x ∈ a, 1 ≤ x ∧ x ≤ 4096) {fb f0 f1 f2 f3 f4 : Bool} {Q : V → Aev.Rows → Prop} (h : OutF (pickC a 1 4) Q) : Ends c0 0 (HQ fb f0 f1 f2 f3 f4 a 4 (clsTo a 0 a.length) (clsTo a 1 a.length) (clsTo a 2 a.length) (clsTo a 3 a.length) (clsTo a 4 a.length)) Q := by
  have hlen := clsTo_len a 4 a.length
  by_cases h4 : 4 ≤ (clsTo a 4 a.length).length
  · obtain ⟨e1, e2, e3⟩ := leastL_some h4
    obtain ⟨t1, t2, t3⟩ := S_take h4
    have es : sumAt a ((S a 4).take 4) = sumAt a (leastL a (4 : Nat)) := (sumAt_perm e2).symm
    have hyes : sumAt a ((S a 4).take 4) ≤ 4096 → ∀ rows r, rows[r]? = some (RW (srt kyN ((S a 4).take 4))) → Q (.sl r 1 0 4 4 false) rows := by
      intro hs rows r hr
      have e : pickC a 1 4 = leastL a (4 : Nat) := by
        simp only [pickC]; rw [if_pos ⟨e3, by rw [← es]; exact hs⟩]
      have e1' : leastL a (4 : Nat) = srt kyN ((S a 4).take 4) := e1
      rw [e, e1'] at h
      have e3' : srt kyN ((S a 4).take 4) ≠ [] := by rw [← e1']; exact e3
      exact h.2 e3' (by rw [(srt_perm _ _).length_eq, t2]) rows r hr
    have hno : 4096 < sumAt a ((S a 4).take 4) → Ends c0 0 (HQ true f0 f1 f2 f3 true a ((4 : Int) + 1) (clsTo a 0 a.length) (clsTo a 1 a.length) (clsTo a 2 a.length) (clsTo a 3 a.length) (clsTo a 4 a.length)) Q := by
      intro hs
      refine mqf5 ?_
      have e : pickC a 1 4 = pickC a 0 5 := by
        rw [show pickC a 1 4 = if leastL a (4 : Nat) ≠ [] ∧ sumAt a (leastL a (4 : Nat)) ≤ 4096 then leastL a (4 : Nat) else pickC a 0 5 from rfl, if_neg (fun hh => by have := hh.2; omega)]
      rw [← e]; exact h
    have hA := asc_of_pair (clsTo_asc a 4 a.length)
    have hd : ∀ y ∈ clsTo a 4 a.length, 0 ≤ y ∧ y < (a.length : Int) := fun y hy => ⟨(clsTo_mem hy).1, (clsTo_mem hy).2.1⟩
    have lp := mt_loopF ha t1 t2 t3 (by unfold inInt; omega) hyes hno 4 0 (by omega) (by simp [sumAt])
    have hS : S a 4 = srt (kyK a) (clsTo a 4 a.length) := rfl
    have hSl := S_len a 4
    rw [t2] at lp
    rw [hS] at lp hSl
    generalize hcl : clsTo a 4 a.length = c at *
    cases c with
    | nil => simp at h4
    | cons x l =>
      refine mq4_long (by simpa using h4) (by simp at hlen; omega) hd hA (by rw [hSl]; exact h4) ?_
      rw [unI_ints, unI_ints, List.drop_zero, ints_take, ints_len, List.length_take, hSl, show min 4 (x :: l).length = 4 by omega]
      exact lp
  · have e : pickC a 1 4 = pickC a 0 5 := by
      rw [show pickC a 1 4 = if leastL a (4 : Nat) ≠ [] ∧ sumAt a (leastL a (4 : Nat)) ≤ 4096 then leastL a (4 : Nat) else pickC a 0 5 from rfl, if_neg (fun hh => hh.1 (leastL_none (j := 4) (by omega)))]
    rw [e] at h
    have hk : ∀ {g0 g1 g2 g3 g4 gb : Bool}, Ends c0 0 (HQ gb g0 g1 g2 g3 g4 a (5 : Int) (clsTo a 0 a.length) (clsTo a 1 a.length) (clsTo a 2 a.length) (clsTo a 3 a.length) (clsTo a 4 a.length)) Q := mqf5 h
    generalize hcl : clsTo a 4 a.length = c at *
    cases c with
    | nil => exact mq4_nil hk
    | cons x l => exact mq4_short (by simp at h4; omega) hk
theorem mqf3 {a : List Int} (hb : a.length ≤ 1073741824) (ha : ∀ x ∈ a, 1 ≤ x ∧ x ≤ 4096) {fb f0 f1 f2 f3 f4 : Bool} {Q : V → Aev.Rows → Prop} (h : OutF (pickC a 2 3) Q) : Ends c0 0 (HQ fb f0 f1 f2 f3 f4 a 3 (clsTo a 0 a.length) (clsTo a 1 a.length) (clsTo a 2 a.length) (clsTo a 3 a.length) (clsTo a 4 a.length)) Q := by
  have hlen := clsTo_len a 3 a.length
  by_cases h4 : 4 ≤ (clsTo a 3 a.length).length
  · obtain ⟨e1, e2, e3⟩ := leastL_some h4
    obtain ⟨t1, t2, t3⟩ := S_take h4
    have es : sumAt a ((S a 3).take 4) = sumAt a (leastL a (3 : Nat)) := (sumAt_perm e2).symm
    have hyes : sumAt a ((S a 3).take 4) ≤ 4096 → ∀ rows r, rows[r]? = some (RW (srt kyN ((S a 3).take 4))) → Q (.sl r 1 0 4 4 false) rows := by
      intro hs rows r hr
      have e : pickC a 2 3 = leastL a (3 : Nat) := by
        simp only [pickC]; rw [if_pos ⟨e3, by rw [← es]; exact hs⟩]
      have e1' : leastL a (3 : Nat) = srt kyN ((S a 3).take 4) := e1
      rw [e, e1'] at h
      have e3' : srt kyN ((S a 3).take 4) ≠ [] := by rw [← e1']; exact e3
      exact h.2 e3' (by rw [(srt_perm _ _).length_eq, t2]) rows r hr
    have hno : 4096 < sumAt a ((S a 3).take 4) → Ends c0 0 (HQ true f0 f1 f2 true f4 a ((3 : Int) + 1) (clsTo a 0 a.length) (clsTo a 1 a.length) (clsTo a 2 a.length) (clsTo a 3 a.length) (clsTo a 4 a.length)) Q := by
      intro hs
      refine mqf4 hb ha ?_
      have e : pickC a 2 3 = pickC a 1 4 := by
        rw [show pickC a 2 3 = if leastL a (3 : Nat) ≠ [] ∧ sumAt a (leastL a (3 : Nat)) ≤ 4096 then leastL a (3 : Nat) else pickC a 1 4 from rfl, if_neg (fun hh => by have := hh.2; omega)]
      rw [← e]; exact h
    have hA := asc_of_pair (clsTo_asc a 3 a.length)
    have hd : ∀ y ∈ clsTo a 3 a.length, 0 ≤ y ∧ y < (a.length : Int) := fun y hy => ⟨(clsTo_mem hy).1, (clsTo_mem hy).2.1⟩
    have lp := mt_loopF ha t1 t2 t3 (by unfold inInt; omega) hyes hno 4 0 (by omega) (by simp [sumAt])
    have hS : S a 3 = srt (kyK a) (clsTo a 3 a.length) := rfl
    have hSl := S_len a 3
    rw [t2] at lp
    rw [hS] at lp hSl
    generalize hcl : clsTo a 3 a.length = c at *
    cases c with
    | nil => simp at h4
    | cons x l =>
      refine mq3_long (by simpa using h4) (by simp at hlen; omega) hd hA (by rw [hSl]; exact h4) ?_
      rw [unI_ints, unI_ints, List.drop_zero, ints_take, ints_len, List.length_take, hSl, show min 4 (x :: l).length = 4 by omega]
      exact lp
  · have e : pickC a 2 3 = pickC a 1 4 := by
      rw [show pickC a 2 3 = if leastL a (3 : Nat) ≠ [] ∧ sumAt a (leastL a (3 : Nat)) ≤ 4096 then leastL a (3 : Nat) else pickC a 1 4 from rfl, if_neg (fun hh => hh.1 (leastL_none (j := 3) (by omega)))]
    rw [e] at h
    have hk : ∀ {g0 g1 g2 g3 g4 gb : Bool}, Ends c0 0 (HQ gb g0 g1 g2 g3 g4 a (4 : Int) (clsTo a 0 a.length) (clsTo a 1 a.length) (clsTo a 2 a.length) (clsTo a 3 a.length) (clsTo a 4 a.length)) Q := mqf4 hb ha h
    generalize hcl : clsTo a 3 a.length = c at *
    cases c with
    | nil => exact mq3_nil hk
    | cons x l => exact mq3_short (by simp at h4; omega) hk
theorem mqf2 {a : List Int} (hb : a.length ≤ 1073741824) (ha : ∀ x ∈ a, 1 ≤ x ∧ x ≤ 4096) {fb f0 f1 f2 f3 f4 : Bool} {Q : V → Aev.Rows → Prop} (h : OutF (pickC a 3 2) Q) : Ends c0 0 (HQ fb f0 f1 f2 f3 f4 a 2 (clsTo a 0 a.length) (clsTo a 1 a.length) (clsTo a 2 a.length) (clsTo a 3 a.length) (clsTo a 4 a.length)) Q := by
  have hlen := clsTo_len a 2 a.length
  by_cases h4 : 4 ≤ (clsTo a 2 a.length).length
  · obtain ⟨e1, e2, e3⟩ := leastL_some h4
    obtain ⟨t1, t2, t3⟩ := S_take h4
    have es : sumAt a ((S a 2).take 4) = sumAt a (leastL a (2 : Nat)) := (sumAt_perm e2).symm
    have hyes : sumAt a ((S a 2).take 4) ≤ 4096 → ∀ rows r, rows[r]? = some (RW (srt kyN ((S a 2).take 4))) → Q (.sl r 1 0 4 4 false) rows := by
      intro hs rows r hr
      have e : pickC a 3 2 = leastL a (2 : Nat) := by
        simp only [pickC]; rw [if_pos ⟨e3, by rw [← es]; exact hs⟩]
      have e1' : leastL a (2 : Nat) = srt kyN ((S a 2).take 4) := e1
      rw [e, e1'] at h
      have e3' : srt kyN ((S a 2).take 4) ≠ [] := by rw [← e1']; exact e3
      exact h.2 e3' (by rw [(srt_perm _ _).length_eq, t2]) rows r hr
    have hno : 4096 < sumAt a ((S a 2).take 4) → Ends c0 0 (HQ true f0 f1 true f3 f4 a ((2 : Int) + 1) (clsTo a 0 a.length) (clsTo a 1 a.length) (clsTo a 2 a.length) (clsTo a 3 a.length) (clsTo a 4 a.length)) Q := by
      intro hs
      refine mqf3 hb ha ?_
      have e : pickC a 3 2 = pickC a 2 3 := by
        rw [show pickC a 3 2 = if leastL a (2 : Nat) ≠ [] ∧ sumAt a (leastL a (2 : Nat)) ≤ 4096 then leastL a (2 : Nat) else pickC a 2 3 from rfl, if_neg (fun hh => by have := hh.2; omega)]
      rw [← e]; exact h
    have hA := asc_of_pair (clsTo_asc a 2 a.length)
    have hd : ∀ y ∈ clsTo a 2 a.length, 0 ≤ y ∧ y < (a.length : Int) := fun y hy => ⟨(clsTo_mem hy).1, (clsTo_mem hy).2.1⟩
    have lp := mt_loopF ha t1 t2 t3 (by unfold inInt; omega) hyes hno 4 0 (by omega) (by simp [sumAt])
    have hS : S a 2 = srt (kyK a) (clsTo a 2 a.length) := rfl
    have hSl := S_len a 2
    rw [t2] at lp
    rw [hS] at lp hSl
    generalize hcl : clsTo a 2 a.length = c at *
    cases c with
    | nil => simp at h4
    | cons x l =>
      refine mq2_long (by simpa using h4) (by simp at hlen; omega) hd hA (by rw [hSl]; exact h4) ?_
      rw [unI_ints, unI_ints, List.drop_zero, ints_take, ints_len, List.length_take, hSl, show min 4 (x :: l).length = 4 by omega]
      exact lp
  · have e : pickC a 3 2 = pickC a 2 3 := by
      rw [show pickC a 3 2 = if leastL a (2 : Nat) ≠ [] ∧ sumAt a (leastL a (2 : Nat)) ≤ 4096 then leastL a (2 : Nat) else pickC a 2 3 from rfl, if_neg (fun hh => hh.1 (leastL_none (j := 2) (by omega)))]
    rw [e] at h
    have hk : ∀ {g0 g1 g2 g3 g4 gb : Bool}, Ends c0 0 (HQ gb g0 g1 g2 g3 g4 a (3 : Int) (clsTo a 0 a.length) (clsTo a 1 a.length) (clsTo a 2 a.length) (clsTo a 3 a.length) (clsTo a 4 a.length)) Q := mqf3 hb ha h
    generalize hcl : clsTo a 2 a.length = c at *
    cases c with
    | nil => exact mq2_nil hk
    | cons x l => exact mq2_short (by simp at h4; omega) hk
theorem mqf1 {a : List Int} (hb : a.length ≤ 1073741824) (ha : ∀ x ∈ a, 1 ≤ x ∧ x ≤ 4096) {fb f0 f1 f2 f3 f4 : Bool} {Q : V → Aev.Rows → Prop} (h : OutF (pickC a 4 1) Q) : Ends c0 0 (HQ fb f0 f1 f2 f3 f4 a 1 (clsTo a 0 a.length) (clsTo a 1 a.length) (clsTo a 2 a.length) (clsTo a 3 a.length) (clsTo a 4 a.length)) Q := by
  have hlen := clsTo_len a 1 a.length
  by_cases h4 : 4 ≤ (clsTo a 1 a.length).length
  · obtain ⟨e1, e2, e3⟩ := leastL_some h4
    obtain ⟨t1, t2, t3⟩ := S_take h4
    have es : sumAt a ((S a 1).take 4) = sumAt a (leastL a (1 : Nat)) := (sumAt_perm e2).symm
    have hyes : sumAt a ((S a 1).take 4) ≤ 4096 → ∀ rows r, rows[r]? = some (RW (srt kyN ((S a 1).take 4))) → Q (.sl r 1 0 4 4 false) rows := by
      intro hs rows r hr
      have e : pickC a 4 1 = leastL a (1 : Nat) := by
        simp only [pickC]; rw [if_pos ⟨e3, by rw [← es]; exact hs⟩]
      have e1' : leastL a (1 : Nat) = srt kyN ((S a 1).take 4) := e1
      rw [e, e1'] at h
      have e3' : srt kyN ((S a 1).take 4) ≠ [] := by rw [← e1']; exact e3
      exact h.2 e3' (by rw [(srt_perm _ _).length_eq, t2]) rows r hr
    have hno : 4096 < sumAt a ((S a 1).take 4) → Ends c0 0 (HQ true f0 true f2 f3 f4 a ((1 : Int) + 1) (clsTo a 0 a.length) (clsTo a 1 a.length) (clsTo a 2 a.length) (clsTo a 3 a.length) (clsTo a 4 a.length)) Q := by
      intro hs
      refine mqf2 hb ha ?_
      have e : pickC a 4 1 = pickC a 3 2 := by
        rw [show pickC a 4 1 = if leastL a (1 : Nat) ≠ [] ∧ sumAt a (leastL a (1 : Nat)) ≤ 4096 then leastL a (1 : Nat) else pickC a 3 2 from rfl, if_neg (fun hh => by have := hh.2; omega)]
      rw [← e]; exact h
    have hA := asc_of_pair (clsTo_asc a 1 a.length)
    have hd : ∀ y ∈ clsTo a 1 a.length, 0 ≤ y ∧ y < (a.length : Int) := fun y hy => ⟨(clsTo_mem hy).1, (clsTo_mem hy).2.1⟩
    have lp := mt_loopF ha t1 t2 t3 (by unfold inInt; omega) hyes hno 4 0 (by omega) (by simp [sumAt])
    have hS : S a 1 = srt (kyK a) (clsTo a 1 a.length) := rfl
    have hSl := S_len a 1
    rw [t2] at lp
    rw [hS] at lp hSl
    generalize hcl : clsTo a 1 a.length = c at *
    cases c with
    | nil => simp at h4
    | cons x l =>
      refine mq1_long (by simpa using h4) (by simp at hlen; omega) hd hA (by rw [hSl]; exact h4) ?_
      rw [unI_ints, unI_ints, List.drop_zero, ints_take, ints_len, List.length_take, hSl, show min 4 (x :: l).length = 4 by omega]
      exact lp
  · have e : pickC a 4 1 = pickC a 3 2 := by
      rw [show pickC a 4 1 = if leastL a (1 : Nat) ≠ [] ∧ sumAt a (leastL a (1 : Nat)) ≤ 4096 then leastL a (1 : Nat) else pickC a 3 2 from rfl, if_neg (fun hh => hh.1 (leastL_none (j := 1) (by omega)))]
    rw [e] at h
    have hk : ∀ {g0 g1 g2 g3 g4 gb : Bool}, Ends c0 0 (HQ gb g0 g1 g2 g3 g4 a (2 : Int) (clsTo a 0 a.length) (clsTo a 1 a.length) (clsTo a 2 a.length) (clsTo a 3 a.length) (clsTo a 4 a.length)) Q := mqf2 hb ha h
    generalize hcl : clsTo a 1 a.length = c at *
    cases c with
    | nil => exact mq1_nil hk
    | cons x l => exact mq1_short (by simp at h4; omega) hk
theorem mqf0 {a : List Int} (hb : a.length ≤ 1073741824) (ha : ∀ x ∈ a, 1 ≤ x ∧ x ≤ 4096) {fb f0 f1 f2 f3 f4 : Bool} {Q : V → Aev.Rows → Prop} (h : OutF (pickC a 5 0) Q) : Ends c0 0 (HQ fb f0 f1 f2 f3 f4 a 0 (clsTo a 0 a.length) (clsTo a 1 a.length) (clsTo a 2 a.length) (clsTo a 3 a.length) (clsTo a 4 a.length)) Q := by
  have hlen := clsTo_len a 0 a.length
  by_cases h4 : 4 ≤ (clsTo a 0 a.length).length
  · obtain ⟨e1, e2, e3⟩ := leastL_some h4
    obtain ⟨t1, t2, t3⟩ := S_take h4
    have es : sumAt a ((S a 0).take 4) = sumAt a (leastL a (0 : Nat)) := (sumAt_perm e2).symm
    have hyes : sumAt a ((S a 0).take 4) ≤ 4096 → ∀ rows r, rows[r]? = some (RW (srt kyN ((S a 0).take 4))) → Q (.sl r 1 0 4 4 false) rows := by
      intro hs rows r hr
      have e : pickC a 5 0 = leastL a (0 : Nat) := by
        simp only [pickC]; rw [if_pos ⟨e3, by rw [← es]; exact hs⟩]
      have e1' : leastL a (0 : Nat) = srt kyN ((S a 0).take 4) := e1
      rw [e, e1'] at h
      have e3' : srt kyN ((S a 0).take 4) ≠ [] := by rw [← e1']; exact e3
      exact h.2 e3' (by rw [(srt_perm _ _).length_eq, t2]) rows r hr
    have hno : 4096 < sumAt a ((S a 0).take 4) → Ends c0 0 (HQ true true f1 f2 f3 f4 a ((0 : Int) + 1) (clsTo a 0 a.length) (clsTo a 1 a.length) (clsTo a 2 a.length) (clsTo a 3 a.length) (clsTo a 4 a.length)) Q := by
      intro hs
      refine mqf1 hb ha ?_
      have e : pickC a 5 0 = pickC a 4 1 := by
        rw [show pickC a 5 0 = if leastL a (0 : Nat) ≠ [] ∧ sumAt a (leastL a (0 : Nat)) ≤ 4096 then leastL a (0 : Nat) else pickC a 4 1 from rfl, if_neg (fun hh => by have := hh.2; omega)]
      rw [← e]; exact h
    have hA := asc_of_pair (clsTo_asc a 0 a.length)
    have hd : ∀ y ∈ clsTo a 0 a.length, 0 ≤ y ∧ y < (a.length : Int) := fun y hy => ⟨(clsTo_mem hy).1, (clsTo_mem hy).2.1⟩
    have lp := mt_loopF ha t1 t2 t3 (by unfold inInt; omega) hyes hno 4 0 (by omega) (by simp [sumAt])
    have hS : S a 0 = srt (kyK a) (clsTo a 0 a.length) := rfl
    have hSl := S_len a 0
    rw [t2] at lp
    rw [hS] at lp hSl
    generalize hcl : clsTo a 0 a.length = c at *
    cases c with
    | nil => simp at h4
    | cons x l =>
      refine mq0_long (by simpa using h4) (by simp at hlen; omega) hd hA (by rw [hSl]; exact h4) ?_
      rw [unI_ints, unI_ints, List.drop_zero, ints_take, ints_len, List.length_take, hSl, show min 4 (x :: l).length = 4 by omega]
      exact lp
  · have e : pickC a 5 0 = pickC a 4 1 := by
      rw [show pickC a 5 0 = if leastL a (0 : Nat) ≠ [] ∧ sumAt a (leastL a (0 : Nat)) ≤ 4096 then leastL a (0 : Nat) else pickC a 4 1 from rfl, if_neg (fun hh => hh.1 (leastL_none (j := 0) (by omega)))]
    rw [e] at h
    have hk : ∀ {g0 g1 g2 g3 g4 gb : Bool}, Ends c0 0 (HQ gb g0 g1 g2 g3 g4 a (1 : Int) (clsTo a 0 a.length) (clsTo a 1 a.length) (clsTo a 2 a.length) (clsTo a 3 a.length) (clsTo a 4 a.length)) Q := mqf1 hb ha h
    generalize hcl : clsTo a 0 a.length = c at *
    cases c with
    | nil => exact mq0_nil hk
    | cons x l => exact mq0_short (by simp at h4; omega) hk
/-- merge.Pick, its answer in new memory -/
theorem mpick_rcsF {a : List Int} (hb : a.length ≤ 1073741824) (ha : ∀ x ∈ a, 1 ≤ x ∧ x ≤ 4096) : RCsF PP 13 [L a] (vOf (refPick a)) := by
  refine rcsF_of_does (k := 0) (rd := [.dead, .dead, .dead, .dead, .dead]) (fun r row => ?_) (.cons (.data _) .nil) ?_
  · match r with
    | 0 | 1 | 2 | 3 | 4 => simp
    | r + 5 => simp
  refine does_of (c := cP 0) (cP_ok 0) (by kernel_rfl) (Ends.cfg rfl (c := c0) ?_)
  refine mp_start hb ?_
  refine mp_loop hb ha (mp_out (mqf0 hb ha ?_)) a.length 0 (by omega)
  refine ⟨fun h rows => ?_, fun h h4 rows r hr => ?_⟩
  · have : refPick a = [] := h
    rw [this]; exact .inl ⟨rfl, rfl⟩
  · have h' : refPick a ≠ [] := h
    have h4' : (refPick a).length = 4 := h4
    refine .inr ⟨r, refPick a, ?_, hr, ?_⟩
    · rw [ints_len, h4']
    · rw [vOf, if_neg h']
end Go.Aev.M33
end
/- M33DelDefs -/
section
namespace Go.Aev.M33
set_option maxRecDepth 1000000
/-- everything is stepped into -/
noncomputable def cN : SCfg := mk (fun _ => false) (fun _ _ _ => none)
theorem cN_ok : COK cN.cfg := mk_ok (fun g args rows ps v h => by cases h)
def delT (es : List D) (n : Nat) (i : Int) : List D := List.take (n + 1 - (i + 1).toNat) (List.drop (0 + (i + 1).toNat) es)
def delA (es : List D) (n : Nat) (i : Int) : List D := List.take (0 + 0 + i.toNat) es ++ delT es n i ++ List.drop (0 + 0 + i.toNat + (delT es n i).length) es
def delZ (A : List D) (n n1 : Nat) : List D := List.take (0 + 0 + n1) A ++ List.replicate (n + 1 - n1) (.int .i64 0) ++ List.drop (0 + 0 + n1 + (n + 1 - n1)) A
end Go.Aev.M33
end
/- M33Del -/
section
namespace Go.Aev.M33
set_option maxRecDepth 1000000
set_option linter.unusedSimpArgs false
set_option linter.unusedVariables false
theorem del_mid {ys : List Int} {n c : Nat} {i : Int} {Q : V → Aev.Rows → Prop} (h0 : 0 ≤ i) (hc : n + 1 ≤ c) (hy : n + 1 ≤ ys.length) (hb : n ≤ 1073741824) (h1 : i < n) (h : Q (.sl 0 1 0 (i.toNat + (delT (ints ys) n i).length) c false) ([.live (.dat 1 (delZ (delA (ints ys) n i) n (i.toNat + (delT (ints ys) n i).length)) false)])) : Ends c0 1 (start cN 24 [.sl 0 1 0 (n + 1) c false, I i, I (i + 1)] [.live (.dat 1 (ints ys) false)]) Q :=
  Ends.cfg rfl (Ends.fin (c := cN) cN_ok (gds [(16,false)] [] 2) 300 (ps := [(0 : Int) ≤ i, (0 : Int) ≤ i + (1 : Int), (0 : Int) ≤ (↑(n + nat_lit 1) : Int), nat_lit 1 = nat_lit 1 ∧   Int.toNat i ≤ Int.toNat (i + (1 : Int)) ∧     Int.toNat (i + (1 : Int)) ≤ c ∧       nat_lit 0 + Int.toNat (i + (1 : Int)) ≤ List.length (ints ys) ∧         Int.toNat (i + (1 : Int)) ≤ Int.toNat (↑(n + nat_lit 1) : Int) ∧           Int.toNat (↑(n + nat_lit 1) : Int) ≤ c ∧ true = true, (i == i + (1 : Int)) = false, (0 : Int) ≤ i, nat_lit 1 = nat_lit 1 ∧ nat_lit 0 ≤ Int.toNat i ∧ Int.toNat i ≤ c ∧ nat_lit 0 + Int.toNat i ≤ List.length (ints ys), (0 : Int) ≤ i + (1 : Int), nat_lit 1 = nat_lit 1 ∧   Int.toNat (i + (1 : Int)) ≤ n + nat_lit 1 ∧ n + nat_lit 1 ≤ c ∧ nat_lit 0 + (n + nat_lit 1) ≤ List.length (ints ys), nat_lit 1 = nat_lit 1 ∧   nat_lit 1 = nat_lit 1 ∧     nat_lit 0 + Int.toNat (i + (1 : Int)) + (n + nat_lit 1 - Int.toNat (i + (1 : Int))) ≤ List.length (ints ys), nat_lit 0 < nat_lit 1 ∧   List.length         (List.take (n + nat_lit 1 - Int.toNat (i + (1 : Int)))           (List.drop (nat_lit 0 + Int.toNat (i + (1 : Int))) (ints ys))) ≠       nat_lit 0 ∧     nat_lit 1 = nat_lit 1 ∧       nat_lit 1 = nat_lit 1 ∧         nat_lit 0 + (Int.toNat i - nat_lit 0) ≤ List.length (ints ys) ∧           Int.toNat i - nat_lit 0 +               List.length                 (List.take (n + nat_lit 1 - Int.toNat (i + (1 : Int)))                   (List.drop (nat_lit 0 + Int.toNat (i + (1 : Int))) (ints ys))) ≤             c - nat_lit 0, (0 : Int) ≤   (↑(Int.toNat i - nat_lit 0 +         List.length           (List.take (n + nat_lit 1 - Int.toNat (i + (1 : Int)))             (List.drop (nat_lit 0 + Int.toNat (i + (1 : Int))) (ints ys)))) :     Int), (0 : Int) ≤ (↑(n + nat_lit 1) : Int), nat_lit 1 = nat_lit 1 ∧   Int.toNat         (↑(Int.toNat i - nat_lit 0 +               List.length                 (List.take (n + nat_lit 1 - Int.toNat (i + (1 : Int)))                   (List.drop (nat_lit 0 + Int.toNat (i + (1 : Int))) (ints ys)))) :           Int) ≤       Int.toNat (↑(n + nat_lit 1) : Int) ∧     Int.toNat (↑(n + nat_lit 1) : Int) ≤ c - nat_lit 0 ∧       nat_lit 0 + Int.toNat (↑(n + nat_lit 1) : Int) ≤         List.length           (List.take (nat_lit 0 + (Int.toNat i - nat_lit 0)) (ints ys) ++               List.take (n + nat_lit 1 - Int.toNat (i + (1 : Int)))                 (List.drop (nat_lit 0 + Int.toNat (i + (1 : Int))) (ints ys)) ++             List.drop               (nat_lit 0 + (Int.toNat i - nat_lit 0) +                 List.length                   (List.take (n + nat_lit 1 - Int.toNat (i + (1 : Int)))                     (List.drop (nat_lit 0 + Int.toNat (i + (1 : Int))) (ints ys))))               (ints ys)), nat_lit 1 = nat_lit 1 ∧   nat_lit 1 = nat_lit 1 ∧     nat_lit 0 < nat_lit 1 ∧       nat_lit 0 +               Int.toNat                 (↑(Int.toNat i - nat_lit 0 +                       List.length                         (List.take (n + nat_lit 1 - Int.toNat (i + (1 : Int)))                           (List.drop (nat_lit 0 + Int.toNat (i + (1 : Int))) (ints ys)))) :                   Int) +             (Int.toNat (↑(n + nat_lit 1) : Int) -               Int.toNat                 (↑(Int.toNat i - nat_lit 0 +                       List.length                         (List.take (n + nat_lit 1 - Int.toNat (i + (1 : Int)))                           (List.drop (nat_lit 0 + Int.toNat (i + (1 : Int))) (ints ys)))) :                   Int)) ≤           List.length             (List.take (nat_lit 0 + (Int.toNat i - nat_lit 0)) (ints ys) ++                 List.take (n + nat_lit 1 - Int.toNat (i + (1 : Int)))                   (List.drop (nat_lit 0 + Int.toNat (i + (1 : Int))) (ints ys)) ++               List.drop                 (nat_lit 0 + (Int.toNat i - nat_lit 0) +                   List.length                     (List.take (n + nat_lit 1 - Int.toNat (i + (1 : Int)))                       (List.drop (nat_lit 0 + Int.toNat (i + (1 : Int))) (ints ys))))                 (ints ys)) ∧         nat_lit 1 = nat_lit 1]) (v := .sl 0 1 0 (i.toNat + (delT (ints ys) n i).length) c false) (rows := [.live (.dat 1 (delZ (delA (ints ys) n i) n (i.toNat + (delT (ints ys) n i).length)) false)]) (by kernel_rfl) (by
    (try simp only [AllP, Int.toNat_natCast, ints_len, decide_eq_true_eq, decide_eq_false_iff_not, beq_eq_false_iff_ne, beq_iff_eq, bne_iff_ne, bne_eq_false_iff_eq, Bool.not_eq_true', Bool.not_eq_false', Int.not_lt, Int.not_le, gt_iff_lt, ge_iff_le, ne_eq, and_true, true_and, unI_ints, Nat.zero_add, List.length_set, Nat.le_refl, List.length_cons, List.length_nil, List.length_append, List.length_take, List.length_drop, Nat.sub_zero])
    all_goals (repeat' (first | with_reducible assumption | with_reducible rfl | omega | with_reducible exact ints_get (by omega) | with_reducible apply And.intro | unfold inInt | with_reducible exact isInts_ints _))) h)
theorem del_last {ys : List Int} {n c : Nat} {i : Int} {Q : V → Aev.Rows → Prop} (h0 : 0 ≤ i) (hc : n + 1 ≤ c) (hy : n + 1 ≤ ys.length) (hb : n ≤ 1073741824) (h1 : i = n) (h : Q (.sl 0 1 0 i.toNat c false) ([.live (.dat 1 (delZ (ints ys) n i.toNat) false)])) : Ends c0 1 (start cN 24 [.sl 0 1 0 (n + 1) c false, I i, I (i + 1)] [.live (.dat 1 (ints ys) false)]) Q :=
  Ends.cfg rfl (Ends.fin (c := cN) cN_ok (gds [(16,false)] [] 3) 300 (ps := [(0 : Int) ≤ i, (0 : Int) ≤ i + (1 : Int), (0 : Int) ≤ (↑(n + nat_lit 1) : Int), nat_lit 1 = nat_lit 1 ∧   Int.toNat i ≤ Int.toNat (i + (1 : Int)) ∧     Int.toNat (i + (1 : Int)) ≤ c ∧       nat_lit 0 + Int.toNat (i + (1 : Int)) ≤ List.length (ints ys) ∧         Int.toNat (i + (1 : Int)) ≤ Int.toNat (↑(n + nat_lit 1) : Int) ∧           Int.toNat (↑(n + nat_lit 1) : Int) ≤ c ∧ true = true, (i == i + (1 : Int)) = false, (0 : Int) ≤ i, nat_lit 1 = nat_lit 1 ∧ nat_lit 0 ≤ Int.toNat i ∧ Int.toNat i ≤ c ∧ nat_lit 0 + Int.toNat i ≤ List.length (ints ys), (0 : Int) ≤ i + (1 : Int), nat_lit 1 = nat_lit 1 ∧   Int.toNat (i + (1 : Int)) ≤ n + nat_lit 1 ∧ n + nat_lit 1 ≤ c ∧ nat_lit 0 + (n + nat_lit 1) ≤ List.length (ints ys), nat_lit 1 = nat_lit 1 ∧   nat_lit 1 = nat_lit 1 ∧     nat_lit 0 + Int.toNat (i + (1 : Int)) + (n + nat_lit 1 - Int.toNat (i + (1 : Int))) ≤ List.length (ints ys), nat_lit 0 < nat_lit 1 ∧   List.length       (List.take (n + nat_lit 1 - Int.toNat (i + (1 : Int)))         (List.drop (nat_lit 0 + Int.toNat (i + (1 : Int))) (ints ys))) =     nat_lit 0, (0 : Int) ≤ (↑(Int.toNat i - nat_lit 0) : Int), (0 : Int) ≤ (↑(n + nat_lit 1) : Int), nat_lit 1 = nat_lit 1 ∧   Int.toNat (↑(Int.toNat i - nat_lit 0) : Int) ≤ Int.toNat (↑(n + nat_lit 1) : Int) ∧     Int.toNat (↑(n + nat_lit 1) : Int) ≤ c - nat_lit 0 ∧       nat_lit 0 + Int.toNat (↑(n + nat_lit 1) : Int) ≤ List.length (ints ys), nat_lit 1 = nat_lit 1 ∧   nat_lit 1 = nat_lit 1 ∧     nat_lit 0 < nat_lit 1 ∧       nat_lit 0 + Int.toNat (↑(Int.toNat i - nat_lit 0) : Int) +             (Int.toNat (↑(n + nat_lit 1) : Int) - Int.toNat (↑(Int.toNat i - nat_lit 0) : Int)) ≤           List.length (ints ys) ∧         nat_lit 1 = nat_lit 1]) (v := .sl 0 1 0 i.toNat c false) (rows := [.live (.dat 1 (delZ (ints ys) n i.toNat) false)]) (by kernel_rfl) (by
    (try simp only [AllP, Int.toNat_natCast, ints_len, decide_eq_true_eq, decide_eq_false_iff_not, beq_eq_false_iff_ne, beq_iff_eq, bne_iff_ne, bne_eq_false_iff_eq, Bool.not_eq_true', Bool.not_eq_false', Int.not_lt, Int.not_le, gt_iff_lt, ge_iff_le, ne_eq, and_true, true_and, unI_ints, Nat.zero_add, List.length_set, Nat.le_refl, List.length_cons, List.length_nil, List.length_append, List.length_take, List.length_drop, Nat.sub_zero])
    all_goals (repeat' (first | with_reducible assumption | with_reducible rfl | omega | with_reducible exact ints_get (by omega) | with_reducible apply And.intro | unfold inInt | with_reducible exact isInts_ints _))) h)

theorem ints_take' (l : List Int) (n : Nat) : (ints l).take n = ints (l.take n) := by simp [ints, List.map_take]
theorem ints_drop' (l : List Int) (n : Nat) : (ints l).drop n = ints (l.drop n) := by simp [ints, List.map_drop]
theorem ints_rep (n : Nat) : List.replicate n (D.int .i64 0) = ints (List.replicate n 0) := by simp [ints]
theorem erase_split (xs : List Int) (m : Nat) : xs.eraseIdx m = xs.take m ++ xs.drop (m + 1) := List.eraseIdx_eq_take_drop_succ xs m
theorem del_row {xs zs : List Int} {n : Nat} {i : Int} (h0 : 0 ≤ i) (h1 : i < n) (hn : xs.length = n + 1) : i.toNat + (delT (ints (xs ++ zs)) n i).length = n ∧ delZ (delA (ints (xs ++ zs)) n i) n n = ints (xs.eraseIdx i.toNat ++ 0 :: zs) := by
  obtain ⟨m, rfl⟩ : ∃ m : Nat, i = m := ⟨i.toNat, by omega⟩
  have hT : delT (ints (xs ++ zs)) n m = ints (xs.drop (m + 1)) := by
    unfold delT
    rw [show ((m : Int) + 1).toNat = m + 1 by omega, Nat.zero_add, ints_drop', ints_take', List.drop_append_of_le_length (by omega), List.take_append_of_le_length (by rw [List.length_drop]; omega), List.take_of_length_le (by rw [List.length_drop]; omega)]
  have hl : (delT (ints (xs ++ zs)) n m).length = n - m := by rw [hT, ints_len, List.length_drop]; omega
  refine ⟨by rw [hl]; omega, ?_⟩
  unfold delZ delA
  rw [hl, hT, show ((m : Int)).toNat = m by omega, show 0 + 0 + m + (n - m) = n by omega, show n + 1 - n = 1 by omega, show 0 + 0 + n = n by omega, show 0 + 0 + m = m by omega, ints_rep, ints_take', ints_drop', ints_append, ints_append, ints_take', ints_drop', ints_append, ints_append]
  congr 1
  have e1 : ((xs ++ zs).take m ++ xs.drop (m + 1)).length = n := by
    rw [List.length_append, List.length_take, List.length_append, List.length_drop]; omega
  have e2 : (xs ++ zs).take m ++ xs.drop (m + 1) = xs.eraseIdx m := by rw [List.take_append_of_le_length (by omega), erase_split]
  rw [e2] at e1 ⊢
  generalize xs.eraseIdx m = A at e1 ⊢
  have d1 : List.drop (n + 1) A = [] := List.drop_eq_nil_of_le (by omega)
  have d2 : List.drop n (xs ++ zs) = List.drop n xs ++ zs := List.drop_append_of_le_length (by omega)
  have d3 : List.drop 1 (List.drop n xs) = [] := List.drop_eq_nil_of_le (by rw [List.length_drop]; omega)
  rw [List.take_append_of_le_length (by omega), List.take_of_length_le (by omega), List.drop_append, d1, e1, show n + 1 - n = 1 by omega, List.nil_append, d2, List.drop_append, d3, List.length_drop, hn, show 1 - (n + 1 - n) = 0 by omega, List.drop_zero, List.nil_append]
  simp
theorem del_row_last {xs zs : List Int} {n : Nat} {i : Int} (h1 : i = n) (hn : xs.length = n + 1) : delZ (ints (xs ++ zs)) n n = ints (xs.eraseIdx i.toNat ++ 0 :: zs) := by
  subst h1
  unfold delZ
  rw [show ((n : Int)).toNat = n by omega, show 0 + 0 + n = n by omega, show n + 1 - n = 1 by omega, ints_rep, ints_take', ints_drop', ints_append, ints_append]
  congr 1
  rw [List.take_append_of_le_length (by omega), List.drop_append, List.drop_eq_nil_of_le (by omega), hn, show n + 1 - (n + 1) = 0 by omega, List.drop_zero, List.nil_append, erase_split, @List.drop_eq_nil_of_le _ xs _ (by omega)]
  simp
/-- slices.Delete of one element -/
theorem del_does {xs zs : List Int} {n c : Nat} {i : Int} (hn : xs.length = n + 1) (hc : n + 1 ≤ c) (hb : n ≤ 1073741824) (h0 : 0 ≤ i) (h1 : i ≤ n) :
    Does PP 24 1 [.sl 0 1 0 (n + 1) c false, I i, I (i + 1)] [.live (.dat 1 (ints (xs ++ zs)) false)] (fun v rows => v = .sl 0 1 0 n c false ∧ rows = [.live (.dat 1 (ints (xs.eraseIdx i.toNat ++ 0 :: zs)) false)]) := by
  refine does_of (c := cN) cN_ok (by kernel_rfl) (Ends.cfg rfl (c := c0) ?_)
  rcases Int.lt_or_le i n with h2 | h2
  · obtain ⟨e1, e2⟩ := del_row (zs := zs) h0 h2 hn
    refine del_mid h0 hc (by rw [List.length_append]; omega) hb h2 ?_
    rw [e1, e2]
    exact ⟨rfl, rfl⟩
  · have h3 : i = n := by omega
    refine del_last h0 hc (by rw [List.length_append]; omega) hb h3 ?_
    rw [show i.toNat = n by omega, del_row_last h3 hn, show i.toNat = n by omega]
    exact ⟨rfl, rfl⟩
end Go.Aev.M33
end
/- AevSym7 -/
section
/- Marks of past loops over functions: they may be hidden. -/
namespace Go.Aev
open Go.RowKit (Below)
variable {P : Program} {w0 : World} {own : Own} {m : Mp} {S : Nat → Prop} {w : World} {rows : Rows}

def tmpResults (gf : Func) : Bool := gf.results.toList.all fun
  | .tmp _ => true
  | .cell _ _ => false

theorem results_tmp {gf : Func} (h : tmpResults gf = true) (tmps : Array Value) : ∃ u, ∀ w, (results gf tmps).run P w = .ok u w := by
  have key : ∀ (l : List ResultVar), (l.all fun | .tmp _ => true | .cell _ _ => false) = true → ∃ us : List Value, ∀ w, (l.mapM (fun x => match x with
      | .tmp t => pure (tmps.getD t Go.undef)
      | .cell a t => do loadVar t (← asAddr (tmps.getD a Go.undef)) : ResultVar → Sem Value)).run P w = .ok us w := by
    intro l
    induction l with
    | nil => intro _; exact ⟨[], fun w => by simp⟩
    | cons x l ih =>
      intro h
      rw [List.all_cons, Bool.and_eq_true] at h
      obtain ⟨us, hus⟩ := ih h.2
      cases x with
      | tmp t =>
        refine ⟨tmps.getD t Go.undef :: us, fun w => ?_⟩
        rw [List.mapM_cons]
        simp only [Sem.run_bind, Sem.run_pure, Result.andThen_ok, hus w]
      | cell a t => simp at h
  obtain ⟨us, hus⟩ := key gf.results.toList h
  refine ⟨if h : us.toArray.size = 1 then us.toArray[0] else .tuple us.toArray, fun w => ?_⟩
  have hm : (gf.results.mapM (fun x => match x with
      | .tmp t => pure (tmps.getD t Go.undef)
      | .cell a t => do loadVar t (← asAddr (tmps.getD a Go.undef)) : ResultVar → Sem Value)).run P w = .ok us.toArray w := by
    rw [Array.mapM_eq_mapM_toList]
    simp only [Sem.run_map, hus w, Result.andThen_ok]
  unfold results
  rw [Sem.run_bind]
  erw [hm]
  rfl

/-- the rows without the marks -/
theorem killMarks_inv : ∀ {marks : List Nat} {rows rows' : Rows}, killMarks marks rows = some rows' → Inv w0 own m S w rows →
    Inv w0 own m S w rows' ∧ (∀ (r : Nat) (row : Row), rows'[r]? = some (Slot.live row) → rows[r]? = some (Slot.live row) ∧ r ∉ marks) ∧ ∀ r ∈ marks, rows[r]? = some (Slot.live .dfr)
  | [], rows, rows', h, inv => by
    simp [killMarks] at h; subst h
    exact ⟨inv, fun r row h => ⟨h, by simp⟩, fun r h => by simp at h⟩
  | r :: rs, rows, rows', h, inv => by
    simp only [killMarks] at h
    split at h
    · rename_i hl
      have hr := liveAt_ok rows r _ hl
      have hlt := slot_lt hr
      obtain ⟨i1, h1, h2⟩ := killMarks_inv h (inv.kill r hlt)
      have back : ∀ (q : Nat) (row : Row), (setSlot rows r Slot.dead)[q]? = some (Slot.live row) → rows[q]? = some (Slot.live row) ∧ q ≠ r := by
        intro q row hq
        rw [setSlot_get (Nat.le_of_lt hlt)] at hq
        by_cases e : q = r
        · simp [e] at hq
        · simp only [e, if_false] at hq; exact ⟨hq, e⟩
      refine ⟨i1, fun q row hq => ?_, fun q hq => ?_⟩
      · obtain ⟨k1, k2⟩ := h1 q row hq
        obtain ⟨k3, k4⟩ := back q row k1
        exact ⟨k3, by simp [k4, k2]⟩
      · rcases List.mem_cons.1 hq with e | e
        · subst e; exact hr
        · exact (back q _ (h2 q e)).1
    · cases h

/-- from a later beginning to an earlier one -/
theorem Inv.trans {own' : Own} {m' : Mp} {S' : Nat → Prop} {w' : World} {rows2 : Rows} (inv : Inv w0 own m S w rows) (hwr : ∀ b, own' b → w0.heap.size ≤ b ∨ own b) (hst : ∀ b, own'.st b ↔ S b) (i2 : Inv w own' m' S' w' rows2) : Inv w0 own m' S' w' rows2 := by
  refine ⟨i2.none, i2.fre, i2.row, i2.bnd, fun r row b o h1 h2 h3 => ?_, i2.apart, i2.stab, i2.rost, i2.sbnd, fun b hb => ?_, fun b hb => i2.stb b ((hst b).2 (inv.stb b hb)), i2.os.trans inv.os, i2.tape.trans inv.tape, i2.output.trans inv.output, Nat.le_trans inv.grow i2.grow, fun b hb hn => ?_⟩
  · rcases i2.new r row b o h1 h2 h3 with h | h
    · exact .inl (Nat.le_trans inv.grow h)
    · exact hwr b h
  · rcases i2.base b hb with h | h | h
    · exact inv.base b ((hst b).1 h)
    · exact .inr (.inl (Nat.le_trans inv.grow h))
    · exact .inr (hwr b h)
  · rw [i2.kept b (Nat.lt_of_lt_of_le hb inv.grow) (fun h => by
      rcases hwr b h with h | h
      · omega
      · exact hn h)]
    exact inv.kept b hb hn

/-- the marks' blocks are given up, one by one -/
theorem hidden_steps {F : Frame} {hid : List Deferred} (hF : F.mode = .returning) {m0 : Mp} {rows2 : Rows} {cs : List Frame} : ∀ {marks : List Nat} {ds : List Deferred} {w1 : World}, DsRel m0 hid marks ds → marks.Nodup → (∀ r b o r' b' o', r ∈ marks → r' ∈ marks → r ≠ r' → m0 r = some (b, o) → m0 r' = some (b', o') → b ≠ b') →
    (∀ r ∈ marks, ∀ b o, m0 r = some (b, o) → w1.heap[b]? = some (.deferred (some [])) ∧ (∀ (q : Nat) (row : Row) (c o' : Nat), rows2[q]? = some (Slot.live row) → m q = some (c, o') → c ≠ b) ∧ ¬ S b ∧ (w0.heap.size ≤ b ∨ own b)) →
    Inv w0 own m S w1 rows2 → ∃ w2, Steps P (lone { F with defers := ds } cs w1) (lone { F with defers := hid } cs w2) ∧ Inv w0 own m S w2 rows2 ∧ Ext m S w1 m S w2
  | [], ds, w1, hd, _, _, _, inv => by cases hd; exact ⟨w1, Steps.refl _ _, inv, Ext.refl ..⟩
  | r :: rs, ds, w1, hd, hn, ha, hb, inv => by
    cases hd with
    | cons hm t =>
    rename_i b o ds
    obtain ⟨h1, h2, h3, h4⟩ := hb r (by simp) b o hm
    obtain ⟨i1, e1⟩ := inv.scratch (w' := { w1 with heap := w1.heap.setIfInBounds b (.deferred none) }) b (by simp) (fun c2 _ hne => setObj_other w1 b c2 _ hne) h2 h3 h4 (by simp [bsize, h1]) rfl rfl rfl
    rw [List.nodup_cons] at hn
    obtain ⟨w2, s2, i2, e2⟩ := hidden_steps hF t hn.2 (fun r b o r' b' o' h h' => ha r b o r' b' o' (by simp [h]) (by simp [h'])) (fun q hq c o' hc => by
      obtain ⟨k1, k2, k3, k4⟩ := hb q (by simp [hq]) c o' hc
      have hne : c ≠ b := ha q c o' r b o (by simp [hq]) (by simp) (fun e => hn.1 (e ▸ hq)) hc hm
      exact ⟨by rw [← k1]; exact setObj_other w1 b c _ hne, k2, k3, k4⟩) i1 (cs := cs)
    exact ⟨w2, Steps.head (m_mark (P := P) (fr := { F with defers := { target := .collected b, args := #[] } :: ds }) (cs := cs) (rest := ds) hF rfl h1) s2, i2, e1.trans e2⟩

theorem killMarks_nodup : ∀ {marks : List Nat} {rows rows' : Rows}, killMarks marks rows = some rows' → marks.Nodup
  | [], _, _, _ => List.nodup_nil
  | r :: rs, rows, rows', h => by
    simp only [killMarks] at h
    split at h
    · rename_i hl
      have hr := liveAt_ok rows r _ hl
      have hlt := slot_lt hr
      rw [List.nodup_cons]
      refine ⟨fun hm => ?_, killMarks_nodup h⟩
      have gone : ∀ {ms : List Nat} {ra rb : Rows}, killMarks ms ra = some rb → (∀ row, ra[r]? ≠ some (Slot.live row)) → r ∉ ms := by
        intro ms
        induction ms with
        | nil => intro ra rb _ _; simp
        | cons q qs ih =>
          intro ra rb hk hd
          simp only [killMarks] at hk
          split at hk
          · rename_i hlq
            have hrq := liveAt_ok ra q _ hlq
            have hltq := slot_lt hrq
            have hqr : r ≠ q := fun e => hd _ (e ▸ hrq)
            have := ih hk (fun row => by rw [setSlot_get (Nat.le_of_lt hltq), if_neg hqr]; exact hd row)
            simp [hqr, this]
          · cases hk
      exact gone h (fun row => by rw [setSlot_get (Nat.le_of_lt hlt), if_pos rfl]; simp) hm
    · cases h

/-- THE MARKS OF A FRAME MAY BE HIDDEN -/
theorem Ends.hide {c : SCfg} {k : Nat} {s : AS} {Q : V → Rows → Prop} {rows' : Rows} {gf : Func} (hstk : s.stack = []) (hro : s.fr.round = none) (hkm : killMarks s.fr.marks s.rows = some rows') (hgf : c.P.funcs[s.fr.fn]? = some gf) (hres : tmpResults gf = true)
    (h : Ends c k { s with fr := { s.fr with marks := [] }, rows := rows' } Q) : Ends c k s Q := by
  intro w0 own bt f M hb hs
  obtain ⟨hbf, m, S, w, tmps, todo, ds, ro, cs, rfl, inv, hfr, hst⟩ := hs
  rw [hstk] at hst hbf
  cases hst with
  | nil hB =>
  have hds : DsRel m bt.hid s.fr.marks ds := by have := hfr.ds; rw [hstk] at this; exact this
  obtain ⟨i1, k1, k2⟩ := killMarks_inv hkm inv
  have hown : ∀ b, (∃ (r : Nat) (row : Row) (o : Nat), rows'[r]? = some (Slot.live row) ∧ row.rw = true ∧ m r = some (b, o)) → w0.heap.size ≤ b ∨ own b := fun b ⟨r, row, o, h1, h2, h3⟩ => i1.new r row b o h1 h2 h3
  have i0 : Inv w ⟨fun b => ∃ (r : Nat) (row : Row) (o : Nat), rows'[r]? = some (Slot.live row) ∧ row.rw = true ∧ m r = some (b, o), S⟩ m S w rows' :=
    ⟨i1.none, i1.fre, i1.row, i1.bnd, fun r row b o h1 h2 h3 => .inr ⟨r, row, o, h1, h2, h3⟩, i1.apart, i1.stab, i1.rost, i1.sbnd, fun b h => .inl h, fun b h => h, rfl, rfl, rfl, Nat.le_refl _, fun _ _ _ => rfl⟩
  obtain ⟨v, rows2, hq, frR, w', m', S', u, st1, ⟨hfn, hdef⟩, hl, i2, rv, hB2⟩ := h w _ { bt with hid := ds } f (lone (rfr s.fr.fn tmps todo ds ro) bt.cs w) hb
    ⟨by rw [hstk]; exact hbf, m, S, w, tmps, todo, ds, ro, bt.cs, rfl, i0, ⟨hfr.env, hfr.todo, by rw [hstk]; exact .nil, hfr.ro⟩, by rw [hstk]; exact .nil hB⟩
  have i3 := i1.trans hown (fun b => Iff.rfl) i2
  refine ⟨v, rows2, hq, ?_⟩
  have hmode : frR.mode = .returning := hl.1
  have facts : ∀ r ∈ s.fr.marks, ∀ b o, m r = some (b, o) → w'.heap[b]? = some (.deferred (some [])) ∧ (∀ (q : Nat) (row : Row) (c o' : Nat), rows2[q]? = some (Slot.live row) → m' q = some (c, o') → c ≠ b) ∧ ¬ S' b ∧ (w0.heap.size ≤ b ∨ own b) := by
    intro r hr b o hm
    have hrow := k2 r hr
    obtain ⟨b', o', hm', hrel⟩ := inv.row r _ hrow
    rw [hm] at hm'; cases hm'
    have hbw : w.heap[b]? = some (.deferred (some [])) := hrel
    have hlt := inv.bnd r b o hm
    have hno : ¬ ∃ (q : Nat) (row : Row) (o' : Nat), rows'[q]? = some (Slot.live row) ∧ row.rw = true ∧ m q = some (b, o') := by
      rintro ⟨q, row, o', h1, h2, h3⟩
      obtain ⟨h4, h5⟩ := k1 q row h1
      exact inv.apart q r row _ b o' b o (fun e => h5 (e ▸ hr)) h4 hrow h2 h3 hm rfl
    have hnS : ¬ S b := inv.stab r _ b o hrow rfl hm
    have hnS' : ¬ S' b := fun hs => by
      rcases i2.base b hs with h | h | h
      · exact hnS h
      · omega
      · exact hno h
    refine ⟨by rw [i2.kept b hlt hno]; exact hbw, fun q row c o' h1 h2 e => ?_, hnS', inv.new r _ b o hrow rfl hm⟩
    subst e
    cases hrw : row.rw with
    | true =>
      rcases i2.new q row c o' h1 hrw h2 with h | h
      · omega
      · exact hno h
    | false => exact hnS' (i2.rost q row c o' h1 hrw h2)
  obtain ⟨w2, s2, i4, e4⟩ := hidden_steps (P := c.P) (F := frR) hmode hds (killMarks_nodup hkm) (fun r b o r' b' o' h1 h2 hne h3 h4 => inv.apart r r' _ _ b o b' o' hne (k2 r h1) (k2 r' h2) rfl h3 h4) facts i3 (cs := bt.cs)
  have hfrd : { frR with defers := ds } = frR := by
    have hdef : frR.defers = ds := hdef
    cases frR; simp only at hdef; subst hdef; rfl
  rw [hfrd] at s2
  obtain ⟨_, _, l3, fn, l4, l5⟩ := hl
  have hfn' : frR.fn = f := hfn
  have hgf' : fn = gf := by
    have e1 : c.P.funcs[frR.fn]? = some fn := l4
    have e2 : s.fr.fn = f := hbf
    rw [hfn', ← e2, hgf] at e1
    exact (Option.some.inj e1).symm
  subst hgf'
  obtain ⟨u0, hu0⟩ := results_tmp (P := c.P) hres frR.tmps
  have hu : u0 = u := by
    have e1 := hu0 w'
    have e2 : (results fn frR.tmps).run c.P w' = .ok u w' := l5
    rw [e2] at e1; cases e1; rfl
  subst hu
  exact ⟨{ frR with defers := bt.hid }, w2, m', S', u0, st1.trans s2, ⟨hfn, rfl⟩, ⟨hmode, rfl, l3, fn, l4, hu0 w2⟩, i4, rv.ext e4, bt.mono _ _ _ _ (fun _ _ _ h => h) e4.size hB2⟩

def resOK (c : SCfg) (g : FuncId) : Bool := match c.P.funcs[g]? with
  | some gf => tmpResults gf
  | none => false

/-- a run up to a place, the marks hidden, and the state there by new numbers -/
noncomputable def sTurnH (c : SCfg) (h : Hint) (stop : AS → Bool) (n k : Nat) (rs keep : List Nat) (s : AS) : List Prop × Option AS :=
  match sTo c h stop n s with
  | (ps, .next s1) => match killMarks s1.fr.marks s1.rows with
    | some rows' => (ps, if resOK c s1.fr.fn && s1.stack.isEmpty && s1.fr.round.isNone then moveAS k rs keep { s1 with fr := { s1.fr with marks := [] }, rows := rows' } else none)
    | none => (ps, none)
  | (ps, _) => (ps, none)

theorem Ends.turnH {c : SCfg} {k : Nat} {s s' : AS} {Q : V → Rows → Prop} (hc : COK c.cfg) (h : Hint) (stop : AS → Bool) (n : Nat) (rs keep : List Nat) {ps : List Prop} (e : sTurnH c h stop n k rs keep s = (ps, some s')) (hp : AllP ps) (hk : Ends c k s' Q) : Ends c k s Q := by
  unfold sTurnH at e
  split at e
  · rename_i ps1 s1 h1
    split at e
    · rename_i rows' hkm
      injection e with e1 e2
      subst e1
      split at e2
      · rename_i hcnd
        simp only [Bool.and_eq_true, List.isEmpty_iff, Option.isNone_iff_eq_none] at hcnd
        obtain ⟨⟨c1, c2⟩, c3⟩ := hcnd
        unfold resOK at c1
        split at c1
        · rename_i gf hgf
          exact Ends.to hc h stop n h1 hp (Ends.hide c2 c3 hkm hgf c1 (Ends.move rs keep e2 hk))
        · cases c1
      · cases e2
    · injection e with _ e2
      cases e2
  · injection e with _ e2
    cases e2
end Go.Aev
end
/- M33MSetDefs -/
section
namespace Go.Aev.M33
set_option maxRecDepth 1000000
set_option linter.unusedVariables false
/-- a call whose answer and rows are known -/
def afterV (s : AS) (rs : List Nat) (v : V) (rows : Aev.Rows) : AS := (backAt s rs v rows).getD s
theorem Ends.call1 {c : SCfg} (hc : COK c.cfg) {k : Nat} {s : AS} {Q : V → Aev.Rows → Prop} {g : FuncId} {args : List V} {rowsC R0 : Aev.Rows} {rs : List Nat} {v0 : V}
    (hat : callAt c.cfg s = some (g, args, rowsC, rs)) (hd : Does c.P g rs.length args rowsC (fun v rows => v = v0 ∧ rows = R0)) (hb : (backAt s rs v0 R0).isSome = true)
    (h : Ends c k (afterV s rs v0 R0) Q) : Ends c k s Q := by
  refine Ends.callW hc hat hd ?_
  rintro v rows ⟨rfl, rfl⟩
  obtain ⟨s', hs⟩ := Option.isSome_iff_exists.1 hb
  unfold afterV at h
  rw [hs] at h
  exact ⟨s', hs, h⟩
abbrev RE (es : List D) : Slot := .live (.dat 1 es false)
abbrev LR (n c : Nat) (es : List D) : Aev.Rows := [.live (.box [.sl 1 1 0 n c false] false), RE es]
noncomputable def tdC1 : List AItem := (nextOf (sTo cN (gds [(4,false)] [] 1) (atCall 13) 300 (start cN 10 [L [0]] []))).fr.todo
/-- before the first call of Pick -/
noncomputable def HC1 (n c : Nat) (es : List D) (m : Int) : AS := hd 10 tdC1 43 [(4, .pt 0 0 0 0), (5, I m), (12, .sl 1 1 0 n c false)] (LR n c es)
noncomputable def tdS10 : List AItem := (nextOf (sTo cN {} (atLoop 2) 300 (afterV (HC1 1 1 [.int .i64 0] 0) [1] .nil [RE [.int .i64 0]]))).fr.todo
/-- at the loop: p is what Pick said -/
noncomputable def HS (p : V) (n c : Nat) (es : List D) (m : Int) : AS := hd 10 tdS10 43 [(4, .pt 0 0 0 0), (5, I m), (6, p)] (LR n c es)
/-- the four places, as elements -/
def pk (p0 p1 p2 p3 : Int) : Nat → D
  | 0 => .int .i64 p0
  | 1 => .int .i64 p1
  | 2 => .int .i64 p2
  | _ => .int .i64 p3
def hp (p0 p1 p2 p3 : Int) (ys : List Int) : Hint := gdr [] [(13, pk p0 p1 p2 p3)] [(1, el ys)] 2
noncomputable def T1 (n c : Nat) (m p0 p1 p2 p3 : Int) (ys0 ys1 : List Int) : AS := afterV (nextOf (sTo cN (hp p0 p1 p2 p3 ys0) (atCall 24) 300 (HS (L [p0, p1, p2, p3]) (n + 4) c (ints ys0) m))) [1] (.sl 0 1 0 (n + 3) c false) [RE (ints ys1)]
noncomputable def T2 (n c : Nat) (m p0 p1 p2 p3 : Int) (ys0 ys1 ys2 : List Int) : AS := afterV (nextOf (sTo cN (hp p0 p1 p2 p3 ys1) (atCall 24) 300 (T1 n c m p0 p1 p2 p3 ys0 ys1))) [1] (.sl 0 1 0 (n + 2) c false) [RE (ints ys2)]
noncomputable def T3 (n c : Nat) (m p0 p1 p2 p3 : Int) (ys0 ys1 ys2 ys3 : List Int) : AS := afterV (nextOf (sTo cN (hp p0 p1 p2 p3 ys2) (atCall 24) 300 (T2 n c m p0 p1 p2 p3 ys0 ys1 ys2))) [1] (.sl 0 1 0 (n + 1) c false) [RE (ints ys3)]
noncomputable def T4 (n c : Nat) (m p0 p1 p2 p3 : Int) (ys0 ys1 ys2 ys3 ys4 : List Int) : AS := afterV (nextOf (sTo cN (hp p0 p1 p2 p3 ys3) (atCall 24) 300 (T3 n c m p0 p1 p2 p3 ys0 ys1 ys2 ys3))) [1] (.sl 0 1 0 n c false) [RE (ints ys4)]
noncomputable def T5 (n c : Nat) (m p0 p1 p2 p3 : Int) (ys0 ys1 ys2 ys3 ys4 : List Int) : AS := nextOf (sTo cN (hp p0 p1 p2 p3 ys4) (atCall 13) 300 (T4 n c m p0 p1 p2 p3 ys0 ys1 ys2 ys3 ys4))
end Go.Aev.M33
end
/- M33MSetSteps -/
section
namespace Go.Aev.M33
set_option maxRecDepth 1000000
set_option linter.unusedSimpArgs false
set_option linter.unusedVariables false
theorem mset_start {a : List Int} {x : Int} {Q : V → Aev.Rows → Prop} (hb : a.length ≤ 1073741823) (h : Ends c0 0 (HC1 (0 + (ints (x :: a)).length) (0 + (ints (x :: a)).length) (ints (x :: a)) 0) Q) : Ends c0 0 (start cN 10 [L (x :: a)] []) Q :=
  Ends.cfg rfl (Ends.turn (c := cN) cN_ok (gds [(4,false)] [] 1) (atCall 13) 300 [2, 1] [4, 5, 12] (ps := [ints (x :: a) ≠ [], false = false, (List.all (ints (x :: a)) fun e => List.length (D.cells e) == nat_lit 1) = true, nat_lit 0 < nat_lit 1 ∧   List.length (ints (x :: a)) ≠ nat_lit 0 ∧     nat_lit 1 = nat_lit 1 ∧       nat_lit 1 = nat_lit 1 ∧         nat_lit 0 ≤ nat_lit 0 ∧           ¬nat_lit 0 + List.length (ints (x :: a)) ≤ nat_lit 0 ∧             nat_lit 2 * (nat_lit 0 + List.length (ints (x :: a))) * nat_lit 8 ≤ nat_lit 281474976710656 ∧               nat_lit 0 + List.length (ints (x :: a)) ≤ nat_lit 4611686018427387904]) (by kernel_rfl) (by
    (try simp only [AllP, Int.toNat_natCast, ints_len, decide_eq_true_eq, decide_eq_false_iff_not, beq_eq_false_iff_ne, beq_iff_eq, bne_iff_ne, bne_eq_false_iff_eq, Bool.not_eq_true', Bool.not_eq_false', Int.not_lt, Int.not_le, gt_iff_lt, ge_iff_le, ne_eq, and_true, true_and, unI_ints, Nat.zero_add, List.length_set, Nat.le_refl, List.length_cons, List.length_nil, List.length_append, List.length_take, List.length_drop, Nat.sub_zero, Int.zero_add])
    all_goals (repeat' (first | with_reducible assumption | with_reducible rfl | omega | with_reducible exact ints_get (by omega) | with_reducible apply And.intro | unfold inInt | with_reducible exact isInts_ints _ | exact ints_ne (by simp) | exact ints_all _ | exact rfl))) (Ends.cfg rfl h))
theorem mset_c1_nil {n c : Nat} {es : List D} {m : Int} {Q : V → Aev.Rows → Prop} (hd : Does PP 13 1 [.sl 0 1 0 n c false] [RE es] (fun x rows => x = .nil ∧ rows = [RE es])) (h : Ends c0 0 (HS (.nil) n c es m) Q) : Ends c0 0 (HC1 n c es m) Q :=
  Ends.cfg rfl (Ends.call1 (c := cN) cN_ok (rs := [1]) (R0 := [RE es]) (by kernel_rfl) hd (by kernel_rfl)
    (Ends.turn (c := cN) cN_ok {} (atLoop 2) 300 [0, 1] [4, 5, 6] (ps := []) (by kernel_rfl) (by
    (try simp only [AllP, Int.toNat_natCast, ints_len, decide_eq_true_eq, decide_eq_false_iff_not, beq_eq_false_iff_ne, beq_iff_eq, bne_iff_ne, bne_eq_false_iff_eq, Bool.not_eq_true', Bool.not_eq_false', Int.not_lt, Int.not_le, gt_iff_lt, ge_iff_le, ne_eq, and_true, true_and, unI_ints, Nat.zero_add, List.length_set, Nat.le_refl, List.length_cons, List.length_nil, List.length_append, List.length_take, List.length_drop, Nat.sub_zero, Int.zero_add])
    all_goals (repeat' (first | with_reducible assumption | with_reducible rfl | omega | with_reducible exact ints_get (by omega) | with_reducible apply And.intro | unfold inInt | with_reducible exact isInts_ints _ | exact ints_ne (by simp) | exact ints_all _ | exact rfl))) (Ends.cfg rfl h)))
theorem mset_c1_some {q : List Int} {n c : Nat} {es : List D} {m : Int} {Q : V → Aev.Rows → Prop} (hd : Does PP 13 1 [.sl 0 1 0 n c false] [RE es] (fun x rows => x = L q ∧ rows = [RE es])) (h : Ends c0 0 (HS (L q) n c es m) Q) : Ends c0 0 (HC1 n c es m) Q :=
  Ends.cfg rfl (Ends.call1 (c := cN) cN_ok (rs := [1]) (R0 := [RE es]) (by kernel_rfl) hd (by kernel_rfl)
    (Ends.turn (c := cN) cN_ok {} (atLoop 2) 300 [0, 1] [4, 5, 6] (ps := []) (by kernel_rfl) (by
    (try simp only [AllP, Int.toNat_natCast, ints_len, decide_eq_true_eq, decide_eq_false_iff_not, beq_eq_false_iff_ne, beq_iff_eq, bne_iff_ne, bne_eq_false_iff_eq, Bool.not_eq_true', Bool.not_eq_false', Int.not_lt, Int.not_le, gt_iff_lt, ge_iff_le, ne_eq, and_true, true_and, unI_ints, Nat.zero_add, List.length_set, Nat.le_refl, List.length_cons, List.length_nil, List.length_append, List.length_take, List.length_drop, Nat.sub_zero, Int.zero_add])
    all_goals (repeat' (first | with_reducible assumption | with_reducible rfl | omega | with_reducible exact ints_get (by omega) | with_reducible apply And.intro | unfold inInt | with_reducible exact isInts_ints _ | exact ints_ne (by simp) | exact ints_all _ | exact rfl))) (Ends.cfg rfl h)))
theorem mset_end {n c : Nat} {es : List D} {m : Int} {Q : V → Aev.Rows → Prop} (h : Q (.tup [.sl 1 1 0 n c false, I m]) (LR n c es)) : Ends c0 0 (HS .nil n c es m) Q :=
  Ends.cfg rfl (Ends.fin (c := cN) cN_ok {} 300 (ps := []) (v := .tup [.sl 1 1 0 n c false, I m]) (rows := LR n c es) (by kernel_rfl) (by
    (try simp only [AllP, Int.toNat_natCast, ints_len, decide_eq_true_eq, decide_eq_false_iff_not, beq_eq_false_iff_ne, beq_iff_eq, bne_iff_ne, bne_eq_false_iff_eq, Bool.not_eq_true', Bool.not_eq_false', Int.not_lt, Int.not_le, gt_iff_lt, ge_iff_le, ne_eq, and_true, true_and, unI_ints, Nat.zero_add, List.length_set, Nat.le_refl, List.length_cons, List.length_nil, List.length_append, List.length_take, List.length_drop, Nat.sub_zero, Int.zero_add])
    all_goals (repeat' (first | with_reducible assumption | with_reducible rfl | omega | with_reducible exact ints_get (by omega) | with_reducible apply And.intro | unfold inInt | with_reducible exact isInts_ints _ | exact ints_ne (by simp) | exact ints_all _ | exact rfl))) h)
theorem mset_d0 {n c : Nat} {m p0 p1 p2 p3 : Int} {ys0 ys1 : List Int} {Q : V → Aev.Rows → Prop} (h0 : 0 ≤ p3) (h1 : p3 < ((n + 4 : Nat) : Int)) (hb : n ≤ 1073741824) (hy : n + 4 ≤ ys0.length) (hs : inInt (ys0.getD p3.toNat 0)) (hd : Does PP 24 1 [.sl 0 1 0 (n + 4) c false, I p3, I (p3 + 1)] [RE (ints ys0)] (fun v rows => v = .sl 0 1 0 (n + 3) c false ∧ rows = [RE (ints ys1)])) (h : Ends c0 0 (T1 n c m p0 p1 p2 p3 ys0 ys1) Q) : Ends c0 0 (HS (L [p0, p1, p2, p3]) (n + 4) c (ints ys0) m) Q :=
  Ends.cfg rfl (Ends.to (c := cN) cN_ok (hp p0 p1 p2 p3 ys0) (atCall 24) 300 (s' := nextOf (sTo cN (hp p0 p1 p2 p3 ys0) (atCall 24) 300 (HS (L [p0, p1, p2, p3]) (n + 4) c (ints ys0) m))) (ps := [inInt (3 : Int), (0 : Int) ≤ (3 : Int) ∧ (3 : Int) < (4 : Int), (ints [p0, p1, p2, p3])[nat_lit 3]? = some (D.int IntKind.i64 p3), nat_lit 1 = nat_lit 1, nat_lit 1 = nat_lit 1 ∧ (0 : Int) ≤ p3 ∧ p3 < (↑(n + nat_lit 4) : Int), nat_lit 1 = nat_lit 1 ∧   (ints ys0)[nat_lit 0 + Int.toNat p3]? = some (D.int IntKind.i64 (List.getD ys0 (nat_lit 0 + Int.toNat p3) (0 : Int))), inInt ((0 : Int) + List.getD ys0 (nat_lit 0 + Int.toNat p3) (0 : Int)), inInt (p3 + (1 : Int))]) (by kernel_rfl) (by
    (try simp only [AllP, Int.toNat_natCast, ints_len, decide_eq_true_eq, decide_eq_false_iff_not, beq_eq_false_iff_ne, beq_iff_eq, bne_iff_ne, bne_eq_false_iff_eq, Bool.not_eq_true', Bool.not_eq_false', Int.not_lt, Int.not_le, gt_iff_lt, ge_iff_le, ne_eq, and_true, true_and, unI_ints, Nat.zero_add, List.length_set, Nat.le_refl, List.length_cons, List.length_nil, List.length_append, List.length_take, List.length_drop, Nat.sub_zero, Int.zero_add])
    all_goals (repeat' (first | with_reducible assumption | with_reducible rfl | omega | with_reducible exact ints_get (by omega) | with_reducible apply And.intro | unfold inInt | with_reducible exact isInts_ints _ | exact ints_ne (by simp) | exact ints_all _ | exact rfl)))
    (Ends.call1 (c := cN) cN_ok (rs := [1]) (R0 := [RE (ints ys1)]) (by kernel_rfl) hd (by kernel_rfl) (Ends.cfg rfl h)))
theorem mset_d1 {n c : Nat} {m p0 p1 p2 p3 : Int} {ys0 ys1 ys2 : List Int} {Q : V → Aev.Rows → Prop} (h0 : 0 ≤ p2) (h1 : p2 < ((n + 3 : Nat) : Int)) (hb : n ≤ 1073741824) (hy : n + 3 ≤ ys1.length) (hs : inInt (ys0.getD p3.toNat 0 + ys1.getD p2.toNat 0)) (hd : Does PP 24 1 [.sl 0 1 0 (n + 3) c false, I p2, I (p2 + 1)] [RE (ints ys1)] (fun v rows => v = .sl 0 1 0 (n + 2) c false ∧ rows = [RE (ints ys2)])) (h : Ends c0 0 (T2 n c m p0 p1 p2 p3 ys0 ys1 ys2) Q) : Ends c0 0 (T1 n c m p0 p1 p2 p3 ys0 ys1) Q :=
  Ends.cfg rfl (Ends.to (c := cN) cN_ok (hp p0 p1 p2 p3 ys1) (atCall 24) 300 (s' := nextOf (sTo cN (hp p0 p1 p2 p3 ys1) (atCall 24) 300 (T1 n c m p0 p1 p2 p3 ys0 ys1))) (ps := [inInt (2 : Int), (0 : Int) ≤ (2 : Int) ∧ (2 : Int) < (4 : Int), (ints [p0, p1, p2, p3])[nat_lit 2]? = some (D.int IntKind.i64 p2), nat_lit 1 = nat_lit 1, nat_lit 1 = nat_lit 1 ∧ (0 : Int) ≤ p2 ∧ p2 < (↑(n + nat_lit 3) : Int), nat_lit 1 = nat_lit 1 ∧   (ints ys1)[nat_lit 0 + Int.toNat p2]? = some (D.int IntKind.i64 (List.getD ys1 (nat_lit 0 + Int.toNat p2) (0 : Int))), inInt   ((0 : Int) + List.getD ys0 (nat_lit 0 + Int.toNat p3) (0 : Int) + List.getD ys1 (nat_lit 0 + Int.toNat p2) (0 : Int)), inInt (p2 + (1 : Int))]) (by kernel_rfl) (by
    (try simp only [AllP, Int.toNat_natCast, ints_len, decide_eq_true_eq, decide_eq_false_iff_not, beq_eq_false_iff_ne, beq_iff_eq, bne_iff_ne, bne_eq_false_iff_eq, Bool.not_eq_true', Bool.not_eq_false', Int.not_lt, Int.not_le, gt_iff_lt, ge_iff_le, ne_eq, and_true, true_and, unI_ints, Nat.zero_add, List.length_set, Nat.le_refl, List.length_cons, List.length_nil, List.length_append, List.length_take, List.length_drop, Nat.sub_zero, Int.zero_add])
    all_goals (repeat' (first | with_reducible assumption | with_reducible rfl | omega | with_reducible exact ints_get (by omega) | with_reducible apply And.intro | unfold inInt | with_reducible exact isInts_ints _ | exact ints_ne (by simp) | exact ints_all _ | exact rfl)))
    (Ends.call1 (c := cN) cN_ok (rs := [1]) (R0 := [RE (ints ys2)]) (by kernel_rfl) hd (by kernel_rfl) (Ends.cfg rfl h)))
theorem mset_d2 {n c : Nat} {m p0 p1 p2 p3 : Int} {ys0 ys1 ys2 ys3 : List Int} {Q : V → Aev.Rows → Prop} (h0 : 0 ≤ p1) (h1 : p1 < ((n + 2 : Nat) : Int)) (hb : n ≤ 1073741824) (hy : n + 2 ≤ ys2.length) (hs : inInt (ys0.getD p3.toNat 0 + ys1.getD p2.toNat 0 + ys2.getD p1.toNat 0)) (hd : Does PP 24 1 [.sl 0 1 0 (n + 2) c false, I p1, I (p1 + 1)] [RE (ints ys2)] (fun v rows => v = .sl 0 1 0 (n + 1) c false ∧ rows = [RE (ints ys3)])) (h : Ends c0 0 (T3 n c m p0 p1 p2 p3 ys0 ys1 ys2 ys3) Q) : Ends c0 0 (T2 n c m p0 p1 p2 p3 ys0 ys1 ys2) Q :=
  Ends.cfg rfl (Ends.to (c := cN) cN_ok (hp p0 p1 p2 p3 ys2) (atCall 24) 300 (s' := nextOf (sTo cN (hp p0 p1 p2 p3 ys2) (atCall 24) 300 (T2 n c m p0 p1 p2 p3 ys0 ys1 ys2))) (ps := [inInt (1 : Int), (0 : Int) ≤ (1 : Int) ∧ (1 : Int) < (4 : Int), (ints [p0, p1, p2, p3])[nat_lit 1]? = some (D.int IntKind.i64 p1), nat_lit 1 = nat_lit 1, nat_lit 1 = nat_lit 1 ∧ (0 : Int) ≤ p1 ∧ p1 < (↑(n + nat_lit 2) : Int), nat_lit 1 = nat_lit 1 ∧   (ints ys2)[nat_lit 0 + Int.toNat p1]? = some (D.int IntKind.i64 (List.getD ys2 (nat_lit 0 + Int.toNat p1) (0 : Int))), inInt   ((0 : Int) + List.getD ys0 (nat_lit 0 + Int.toNat p3) (0 : Int) + List.getD ys1 (nat_lit 0 + Int.toNat p2) (0 : Int) +     List.getD ys2 (nat_lit 0 + Int.toNat p1) (0 : Int)), inInt (p1 + (1 : Int))]) (by kernel_rfl) (by
    (try simp only [AllP, Int.toNat_natCast, ints_len, decide_eq_true_eq, decide_eq_false_iff_not, beq_eq_false_iff_ne, beq_iff_eq, bne_iff_ne, bne_eq_false_iff_eq, Bool.not_eq_true', Bool.not_eq_false', Int.not_lt, Int.not_le, gt_iff_lt, ge_iff_le, ne_eq, and_true, true_and, unI_ints, Nat.zero_add, List.length_set, Nat.le_refl, List.length_cons, List.length_nil, List.length_append, List.length_take, List.length_drop, Nat.sub_zero, Int.zero_add])
    all_goals (repeat' (first | with_reducible assumption | with_reducible rfl | omega | with_reducible exact ints_get (by omega) | with_reducible apply And.intro | unfold inInt | with_reducible exact isInts_ints _ | exact ints_ne (by simp) | exact ints_all _ | exact rfl)))
    (Ends.call1 (c := cN) cN_ok (rs := [1]) (R0 := [RE (ints ys3)]) (by kernel_rfl) hd (by kernel_rfl) (Ends.cfg rfl h)))
theorem mset_d3 {n c : Nat} {m p0 p1 p2 p3 : Int} {ys0 ys1 ys2 ys3 ys4 : List Int} {Q : V → Aev.Rows → Prop} (h0 : 0 ≤ p0) (h1 : p0 < ((n + 1 : Nat) : Int)) (hb : n ≤ 1073741824) (hy : n + 1 ≤ ys3.length) (hs : inInt (ys0.getD p3.toNat 0 + ys1.getD p2.toNat 0 + ys2.getD p1.toNat 0 + ys3.getD p0.toNat 0)) (hd : Does PP 24 1 [.sl 0 1 0 (n + 1) c false, I p0, I (p0 + 1)] [RE (ints ys3)] (fun v rows => v = .sl 0 1 0 n c false ∧ rows = [RE (ints ys4)])) (h : Ends c0 0 (T4 n c m p0 p1 p2 p3 ys0 ys1 ys2 ys3 ys4) Q) : Ends c0 0 (T3 n c m p0 p1 p2 p3 ys0 ys1 ys2 ys3) Q :=
  Ends.cfg rfl (Ends.to (c := cN) cN_ok (hp p0 p1 p2 p3 ys3) (atCall 24) 300 (s' := nextOf (sTo cN (hp p0 p1 p2 p3 ys3) (atCall 24) 300 (T3 n c m p0 p1 p2 p3 ys0 ys1 ys2 ys3))) (ps := [inInt (0 : Int), (0 : Int) ≤ (0 : Int) ∧ (0 : Int) < (4 : Int), (ints [p0, p1, p2, p3])[nat_lit 0]? = some (D.int IntKind.i64 p0), nat_lit 1 = nat_lit 1, nat_lit 1 = nat_lit 1 ∧ (0 : Int) ≤ p0 ∧ p0 < (↑(n + nat_lit 1) : Int), nat_lit 1 = nat_lit 1 ∧   (ints ys3)[nat_lit 0 + Int.toNat p0]? = some (D.int IntKind.i64 (List.getD ys3 (nat_lit 0 + Int.toNat p0) (0 : Int))), inInt   ((0 : Int) + List.getD ys0 (nat_lit 0 + Int.toNat p3) (0 : Int) + List.getD ys1 (nat_lit 0 + Int.toNat p2) (0 : Int) +       List.getD ys2 (nat_lit 0 + Int.toNat p1) (0 : Int) +     List.getD ys3 (nat_lit 0 + Int.toNat p0) (0 : Int)), inInt (p0 + (1 : Int))]) (by kernel_rfl) (by
    (try simp only [AllP, Int.toNat_natCast, ints_len, decide_eq_true_eq, decide_eq_false_iff_not, beq_eq_false_iff_ne, beq_iff_eq, bne_iff_ne, bne_eq_false_iff_eq, Bool.not_eq_true', Bool.not_eq_false', Int.not_lt, Int.not_le, gt_iff_lt, ge_iff_le, ne_eq, and_true, true_and, unI_ints, Nat.zero_add, List.length_set, Nat.le_refl, List.length_cons, List.length_nil, List.length_append, List.length_take, List.length_drop, Nat.sub_zero, Int.zero_add])
    all_goals (repeat' (first | with_reducible assumption | with_reducible rfl | omega | with_reducible exact ints_get (by omega) | with_reducible apply And.intro | unfold inInt | with_reducible exact isInts_ints _ | exact ints_ne (by simp) | exact ints_all _ | exact rfl)))
    (Ends.call1 (c := cN) cN_ok (rs := [1]) (R0 := [RE (ints ys4)]) (by kernel_rfl) hd (by kernel_rfl) (Ends.cfg rfl h)))
theorem mset_app {n c : Nat} {m p0 p1 p2 p3 : Int} {ys0 ys1 ys2 ys3 ys4 : List Int} {Q : V → Aev.Rows → Prop} (hc : n + 1 ≤ c) (hy : n + 1 ≤ ys4.length) (hs : inInt (m + (ys0.getD p3.toNat 0 + ys1.getD p2.toNat 0 + ys2.getD p1.toNat 0 + ys3.getD p0.toNat 0))) (h : Ends c0 0 (T5 n c m p0 p1 p2 p3 ys0 ys1 ys2 ys3 ys4) Q) : Ends c0 0 (T4 n c m p0 p1 p2 p3 ys0 ys1 ys2 ys3 ys4) Q :=
  Ends.cfg rfl (Ends.to (c := cN) cN_ok (hp p0 p1 p2 p3 ys4) (atCall 13) 300 (s' := (T5 n c m p0 p1 p2 p3 ys0 ys1 ys2 ys3 ys4)) (ps := [inInt (-1 : Int), nat_lit 1 = nat_lit 1 ∧ nat_lit 1 = nat_lit 1 ∧ nat_lit 1 ≤ nat_lit 1, nat_lit 0 < nat_lit 1 ∧   nat_lit 1 ≠ nat_lit 0 ∧     nat_lit 1 = nat_lit 1 ∧ nat_lit 1 = nat_lit 1 ∧ nat_lit 0 + n ≤ List.length (ints ys4) ∧ n + nat_lit 1 ≤ c, inInt   (m +     ((0 : Int) + List.getD ys0 (nat_lit 0 + Int.toNat p3) (0 : Int) +           List.getD ys1 (nat_lit 0 + Int.toNat p2) (0 : Int) +         List.getD ys2 (nat_lit 0 + Int.toNat p1) (0 : Int) +       List.getD ys3 (nat_lit 0 + Int.toNat p0) (0 : Int)))]) (by kernel_rfl) (by
    (try simp only [AllP, Int.toNat_natCast, ints_len, decide_eq_true_eq, decide_eq_false_iff_not, beq_eq_false_iff_ne, beq_iff_eq, bne_iff_ne, bne_eq_false_iff_eq, Bool.not_eq_true', Bool.not_eq_false', Int.not_lt, Int.not_le, gt_iff_lt, ge_iff_le, ne_eq, and_true, true_and, unI_ints, Nat.zero_add, List.length_set, Nat.le_refl, List.length_cons, List.length_nil, List.length_append, List.length_take, List.length_drop, Nat.sub_zero, Int.zero_add])
    all_goals (repeat' (first | with_reducible assumption | with_reducible rfl | omega | with_reducible exact ints_get (by omega) | with_reducible apply And.intro | unfold inInt | with_reducible exact isInts_ints _ | exact ints_ne (by simp) | exact ints_all _ | exact rfl))) (Ends.cfg rfl h))
theorem mset_c2_nil {n c : Nat} {m p0 p1 p2 p3 : Int} {ys0 ys1 ys2 ys3 ys4 : List Int} {Q : V → Aev.Rows → Prop} (hd : Does PP 13 1 [.sl 0 1 0 (n + 1) c false] [RE (List.take (0 + n) (ints ys4) ++ [D.int .i64 (0 + ys0.getD (0 + p3.toNat) 0 + ys1.getD (0 + p2.toNat) 0 + ys2.getD (0 + p1.toNat) 0 + ys3.getD (0 + p0.toNat) 0)] ++ List.drop (0 + n + 1) (ints ys4))] (fun x rows => x = .nil ∧ rows = [RE (List.take (0 + n) (ints ys4) ++ [D.int .i64 (0 + ys0.getD (0 + p3.toNat) 0 + ys1.getD (0 + p2.toNat) 0 + ys2.getD (0 + p1.toNat) 0 + ys3.getD (0 + p0.toNat) 0)] ++ List.drop (0 + n + 1) (ints ys4))])) (h : Ends c0 0 (HS (.nil) (n + 1) c (List.take (0 + n) (ints ys4) ++ [D.int .i64 (0 + ys0.getD (0 + p3.toNat) 0 + ys1.getD (0 + p2.toNat) 0 + ys2.getD (0 + p1.toNat) 0 + ys3.getD (0 + p0.toNat) 0)] ++ List.drop (0 + n + 1) (ints ys4)) (m + (0 + ys0.getD (0 + p3.toNat) 0 + ys1.getD (0 + p2.toNat) 0 + ys2.getD (0 + p1.toNat) 0 + ys3.getD (0 + p0.toNat) 0))) Q) : Ends c0 0 (T5 n c m p0 p1 p2 p3 ys0 ys1 ys2 ys3 ys4) Q :=
  Ends.cfg rfl (Ends.call1 (c := cN) cN_ok (rs := [1]) (g := 13) (args := [.sl 0 1 0 (n + 1) c false]) (rowsC := [RE (List.take (0 + n) (ints ys4) ++ [D.int .i64 (0 + ys0.getD (0 + p3.toNat) 0 + ys1.getD (0 + p2.toNat) 0 + ys2.getD (0 + p1.toNat) 0 + ys3.getD (0 + p0.toNat) 0)] ++ List.drop (0 + n + 1) (ints ys4))]) (v0 := .nil) (R0 := [RE (List.take (0 + n) (ints ys4) ++ [D.int .i64 (0 + ys0.getD (0 + p3.toNat) 0 + ys1.getD (0 + p2.toNat) 0 + ys2.getD (0 + p1.toNat) 0 + ys3.getD (0 + p0.toNat) 0)] ++ List.drop (0 + n + 1) (ints ys4))]) (by kernel_rfl) hd (by kernel_rfl)
    (Ends.turnH (c := cN) cN_ok {} (atLoop 2) 300 [0, 1] [4, 5, 6] (ps := []) (by kernel_rfl) (by
    (try simp only [AllP, Int.toNat_natCast, ints_len, decide_eq_true_eq, decide_eq_false_iff_not, beq_eq_false_iff_ne, beq_iff_eq, bne_iff_ne, bne_eq_false_iff_eq, Bool.not_eq_true', Bool.not_eq_false', Int.not_lt, Int.not_le, gt_iff_lt, ge_iff_le, ne_eq, and_true, true_and, unI_ints, Nat.zero_add, List.length_set, Nat.le_refl, List.length_cons, List.length_nil, List.length_append, List.length_take, List.length_drop, Nat.sub_zero, Int.zero_add])
    all_goals (repeat' (first | with_reducible assumption | with_reducible rfl | omega | with_reducible exact ints_get (by omega) | with_reducible apply And.intro | unfold inInt | with_reducible exact isInts_ints _ | exact ints_ne (by simp) | exact ints_all _ | exact rfl))) (Ends.cfg rfl h)))
theorem mset_c2_some {q : List Int} {n c : Nat} {m p0 p1 p2 p3 : Int} {ys0 ys1 ys2 ys3 ys4 : List Int} {Q : V → Aev.Rows → Prop} (hd : Does PP 13 1 [.sl 0 1 0 (n + 1) c false] [RE (List.take (0 + n) (ints ys4) ++ [D.int .i64 (0 + ys0.getD (0 + p3.toNat) 0 + ys1.getD (0 + p2.toNat) 0 + ys2.getD (0 + p1.toNat) 0 + ys3.getD (0 + p0.toNat) 0)] ++ List.drop (0 + n + 1) (ints ys4))] (fun x rows => x = L q ∧ rows = [RE (List.take (0 + n) (ints ys4) ++ [D.int .i64 (0 + ys0.getD (0 + p3.toNat) 0 + ys1.getD (0 + p2.toNat) 0 + ys2.getD (0 + p1.toNat) 0 + ys3.getD (0 + p0.toNat) 0)] ++ List.drop (0 + n + 1) (ints ys4))])) (h : Ends c0 0 (HS (L q) (n + 1) c (List.take (0 + n) (ints ys4) ++ [D.int .i64 (0 + ys0.getD (0 + p3.toNat) 0 + ys1.getD (0 + p2.toNat) 0 + ys2.getD (0 + p1.toNat) 0 + ys3.getD (0 + p0.toNat) 0)] ++ List.drop (0 + n + 1) (ints ys4)) (m + (0 + ys0.getD (0 + p3.toNat) 0 + ys1.getD (0 + p2.toNat) 0 + ys2.getD (0 + p1.toNat) 0 + ys3.getD (0 + p0.toNat) 0))) Q) : Ends c0 0 (T5 n c m p0 p1 p2 p3 ys0 ys1 ys2 ys3 ys4) Q :=
  Ends.cfg rfl (Ends.call1 (c := cN) cN_ok (rs := [1]) (g := 13) (args := [.sl 0 1 0 (n + 1) c false]) (rowsC := [RE (List.take (0 + n) (ints ys4) ++ [D.int .i64 (0 + ys0.getD (0 + p3.toNat) 0 + ys1.getD (0 + p2.toNat) 0 + ys2.getD (0 + p1.toNat) 0 + ys3.getD (0 + p0.toNat) 0)] ++ List.drop (0 + n + 1) (ints ys4))]) (v0 := L q) (R0 := [RE (List.take (0 + n) (ints ys4) ++ [D.int .i64 (0 + ys0.getD (0 + p3.toNat) 0 + ys1.getD (0 + p2.toNat) 0 + ys2.getD (0 + p1.toNat) 0 + ys3.getD (0 + p0.toNat) 0)] ++ List.drop (0 + n + 1) (ints ys4))]) (by kernel_rfl) hd (by kernel_rfl)
    (Ends.turnH (c := cN) cN_ok {} (atLoop 2) 300 [0, 1] [4, 5, 6] (ps := []) (by kernel_rfl) (by
    (try simp only [AllP, Int.toNat_natCast, ints_len, decide_eq_true_eq, decide_eq_false_iff_not, beq_eq_false_iff_ne, beq_iff_eq, bne_iff_ne, bne_eq_false_iff_eq, Bool.not_eq_true', Bool.not_eq_false', Int.not_lt, Int.not_le, gt_iff_lt, ge_iff_le, ne_eq, and_true, true_and, unI_ints, Nat.zero_add, List.length_set, Nat.le_refl, List.length_cons, List.length_nil, List.length_append, List.length_take, List.length_drop, Nat.sub_zero, Int.zero_add])
    all_goals (repeat' (first | with_reducible assumption | with_reducible rfl | omega | with_reducible exact ints_get (by omega) | with_reducible apply And.intro | unfold inInt | with_reducible exact isInts_ints _ | exact ints_ne (by simp) | exact ints_all _ | exact rfl))) (Ends.cfg rfl h)))
end Go.Aev.M33
end
/- M33MSettle -/
section
namespace Go.Aev.M33
open List
set_option maxRecDepth 1000000
set_option linter.unusedVariables false
theorem getD_erase_lt {a : List Int} {p i : Nat} (h : i < p) : (a.eraseIdx p).getD i 0 = a.getD i 0 := by
  rw [List.getD_eq_getElem?_getD, List.getD_eq_getElem?_getD, List.getElem?_eraseIdx, if_pos h]
theorem getD_erase_ge {a : List Int} {p i : Nat} (h : p ≤ i) : (a.eraseIdx p).getD i 0 = a.getD (i + 1) 0 := by
  rw [List.getD_eq_getElem?_getD, List.getD_eq_getElem?_getD, List.getElem?_eraseIdx, if_neg (by omega)]
theorem rest_low {a l l' : List Int} {p : Nat} (hl' : ∀ i : Int, i ∈ l' ↔ i ∈ l ∨ i = p) : ∀ k, k ≤ p → restTo (a.eraseIdx p) l k = restTo a l' k
  | 0, _ => rfl
  | k + 1, h => by
    have ih := rest_low (a := a) hl' k (by omega)
    simp only [restTo]
    rw [ih, getD_erase_lt (by omega)]
    by_cases hm : (k : Int) ∈ l
    · rw [if_pos hm, if_pos ((hl' _).2 (.inl hm))]
    · rw [if_neg hm, if_neg (fun h' => by
        rcases (hl' _).1 h' with h1 | h1
        · exact hm h1
        · omega)]
theorem rest_high {a l l' : List Int} {p : Nat} (hl : ∀ i ∈ l, i < (p : Int)) (hl' : ∀ i : Int, i ∈ l' ↔ i ∈ l ∨ i = p) : ∀ k, p ≤ k → restTo (a.eraseIdx p) l k = restTo a l' (k + 1) := by
  intro k hk
  induction k with
  | zero =>
    obtain rfl : p = 0 := by omega
    simp only [restTo]
    rw [if_pos ((hl' _).2 (.inr rfl))]
  | succ k ih =>
    by_cases hkp : p = k + 1
    · subst hkp
      rw [rest_low hl' _ (Nat.le_refl _), show restTo a l' (k + 1 + 1) = if ((k + 1 : Nat) : Int) ∈ l' then restTo a l' (k + 1) else restTo a l' (k + 1) ++ [a.getD (k + 1) 0] from rfl, if_pos ((hl' _).2 (.inr rfl))]
    · have ih := ih (by omega)
      rw [show restTo (a.eraseIdx p) l (k + 1) = if (k : Int) ∈ l then restTo (a.eraseIdx p) l k else restTo (a.eraseIdx p) l k ++ [(a.eraseIdx p).getD k 0] from rfl,
        show restTo a l' (k + 1 + 1) = if ((k + 1 : Nat) : Int) ∈ l' then restTo a l' (k + 1) else restTo a l' (k + 1) ++ [a.getD (k + 1) 0] from rfl,
        if_neg (fun h => by have := hl _ h; omega), if_neg (fun h => by
          rcases (hl' _).1 h with h1 | h1
          · have := hl _ h1; omega
          · omega), ih, getD_erase_ge (by omega)]
theorem rest_erase {a l l' : List Int} {p : Nat} (hp : p < a.length) (hl : ∀ i ∈ l, i < (p : Int)) (hl' : ∀ i : Int, i ∈ l' ↔ i ∈ l ∨ i = p) : rest a l' = rest (a.eraseIdx p) l := by
  have h := rest_high (a := a) hl hl' (a.length - 1) (by omega)
  have e : (a.eraseIdx p).length = a.length - 1 := by rw [List.length_eraseIdx, if_pos hp]
  show restTo a l' a.length = restTo (a.eraseIdx p) l (a.eraseIdx p).length
  rw [e, h]; congr 1; omega
theorem rest_nil (a : List Int) : rest a [] = a := by
  have : ∀ k, k ≤ a.length → restTo a [] k = a.take k := by
    intro k
    induction k with
    | zero => intro _; simp [restTo]
    | succ k ih =>
      intro h
      simp only [restTo]
      rw [if_neg (by simp), ih (by omega), List.take_succ_eq_append_getElem (by omega)]
      congr 1
      rw [List.getD_eq_getElem?_getD, List.getElem?_eq_getElem (by omega)]; rfl
  show restTo a [] a.length = a
  rw [this _ (Nat.le_refl _), List.take_length]
theorem rest4 {a : List Int} {q0 q1 q2 q3 : Nat} (h0 : q0 < q1) (h1 : q1 < q2) (h2 : q2 < q3) (h3 : q3 < a.length) : rest a [(q0 : Int), q1, q2, q3] = (((a.eraseIdx q3).eraseIdx q2).eraseIdx q1).eraseIdx q0 := by
  have e3 : (a.eraseIdx q3).length = a.length - 1 := by rw [List.length_eraseIdx, if_pos (by omega)]
  have e2 : ((a.eraseIdx q3).eraseIdx q2).length = a.length - 2 := by rw [List.length_eraseIdx, if_pos (by omega)]; omega
  have e1 : (((a.eraseIdx q3).eraseIdx q2).eraseIdx q1).length = a.length - 3 := by rw [List.length_eraseIdx, if_pos (by omega)]; omega
  rw [rest_erase (l := [(q0 : Int), q1, q2]) h3 (by simp; omega) (by intro i; simp; omega),
    rest_erase (l := [(q0 : Int), q1]) (p := q2) (by omega) (by simp; omega) (by intro i; simp; omega),
    rest_erase (l := [(q0 : Int)]) (p := q1) (by omega) (by simp; omega) (by intro i; simp [or_comm]),
    rest_erase (l := []) (p := q0) (by omega) (by simp) (by intro i; simp), rest_nil]

/-- what is picked is in ascending order -/
theorem refPick_asc (a : List Int) : (refPick a).Pairwise (· < ·) := by
  rcases pickC_mem a 5 0 with h1 | ⟨j, _, _, h2, h3, h4⟩
  · have : refPick a = [] := h1
    rw [this]; exact .nil
  · have h2' : refPick a = leastL a j := h2
    rw [h2']
    unfold leastL
    split
    · exact .nil
    · exact upTo_asc _ _

theorem pick_does {xs zs : List Int} {c : Nat} (hb : xs.length ≤ 1073741824) (ha : ∀ x ∈ xs, 1 ≤ x ∧ x ≤ 4096) : Does PP 13 1 [.sl 0 1 0 xs.length c false] [RE (ints (xs ++ zs))] (fun x rows => x = vOf (refPick xs) ∧ rows = [RE (ints (xs ++ zs))]) := by
  refine RCsF.does ?_ (by rw [ints_len, List.length_append]; omega)
  rw [ints_take', List.take_append_of_le_length (Nat.le_refl _), List.take_length]
  exact mpick_rcsF hb ha

theorem mset_fin {xs zs : List Int} {m : Int} : convV (liveAt (LR xs.length (xs.length + zs.length) (ints (xs ++ zs)))) (.tup [.sl 1 1 0 xs.length (xs.length + zs.length) false, I m]) = some (.tup [L xs, I m]) := by
  have h1 : toD1 (liveAt (LR xs.length (xs.length + zs.length) (ints (xs ++ zs)))) (.sl 1 1 0 xs.length (xs.length + zs.length) false) = some (.list (ints xs), [(1, .live (.dat 1 (ints (xs ++ zs)) true))]) := by
    simp only [toD1, liveAt, LR, List.getElem?_cons_succ, List.getElem?_cons_zero]
    rw [if_pos ⟨trivial, by rw [ints_len, List.length_append]; omega⟩, List.drop_zero, ints_take', List.take_append_of_le_length (Nat.le_refl _), List.take_length]
  simp only [convV, convsBy, conv1, conv0, h1]
  rfl

/-- the loop of merge.Settle -/
theorem mset_loop {N : Nat} (hN : N ≤ 1073741823) : ∀ (f : Nat) (xs zs : List Int) (m : Int), xs.length ≤ f → xs.length + zs.length ≤ N → (∀ x ∈ xs, 1 ≤ x ∧ x ≤ 4096) → 0 ≤ m → m + 4096 * xs.length ≤ 4096 * N →
    Ends c0 0 (HS (vOf (refPick xs)) xs.length (xs.length + zs.length) (ints (xs ++ zs)) m) (fun v rows => convV (liveAt rows) v = some (.tup [L (settleN f xs m).1, I (settleN f xs m).2])) := by
  intro f
  induction f with
  | zero =>
    intro xs zs m h1 h2 h3 h4 h5
    have : xs = [] := List.length_eq_zero_iff.1 (by omega)
    subst this
    have hp : refPick ([] : List Int) = [] := settleN_enough 0 [] 0 (by simp) (by simp)
    rw [hp]
    exact mset_end (mset_fin (xs := []))
  | succ f ih =>
    intro xs zs m h1 h2 h3 h4 h5
    by_cases hp : refPick xs = []
    · have e : settleN (f + 1) xs m = (xs, m) := by simp [settleN, hp]
      rw [e, hp]
      exact mset_end mset_fin
    · have e : settleN (f + 1) xs m = settleN f (rest xs (refPick xs) ++ [sumAt xs (refPick xs)]) (m + sumAt xs (refPick xs)) := by simp [settleN, hp]
      rw [e]
      obtain ⟨k1, k2, k3, k4⟩ := next_ok h3 hp
      obtain ⟨p1, p2, p3, p4⟩ := refPick_spec hp
      have hasc := refPick_asc xs
      rw [vOf, if_neg hp]
      obtain ⟨n, hn⟩ : ∃ n, xs.length = n + 4 := ⟨xs.length - 4, by simp at k2; omega⟩
      have h6 := ih (rest xs (refPick xs) ++ [sumAt xs (refPick xs)]) (0 :: 0 :: 0 :: zs) (m + sumAt xs (refPick xs)) (by omega) (by simp only [List.length_cons]; omega) k1 (by omega) (by omega)
      have hd6 := pick_does (xs := rest xs (refPick xs) ++ [sumAt xs (refPick xs)]) (zs := 0 :: 0 :: 0 :: zs) (c := n + 4 + zs.length) (by omega) k1
      have hl6 : (rest xs (refPick xs) ++ [sumAt xs (refPick xs)]).length = n + 1 := by omega
      rw [hl6] at h6 hd6
      match hq : refPick xs, p1, p3, hasc with
      | [p0, p1', p2', p3'], _, p3, hasc =>
        rw [hq] at h6 hd6 k3 k4 hl6
        have b0 := p3 p0 (by simp)
        have b1 := p3 p1' (by simp)
        have b2 := p3 p2' (by simp)
        have b3 := p3 p3' (by simp)
        simp only [List.pairwise_cons, List.mem_cons, List.not_mem_nil, or_false, forall_eq_or_imp, forall_eq] at hasc
        obtain ⟨⟨a01, a02, a03⟩, ⟨a12, a13⟩, a23, _⟩ := hasc
        obtain ⟨q0, rfl⟩ : ∃ q : Nat, p0 = q := ⟨p0.toNat, by omega⟩
        obtain ⟨q1, rfl⟩ : ∃ q : Nat, p1' = q := ⟨p1'.toNat, by omega⟩
        obtain ⟨q2, rfl⟩ : ∃ q : Nat, p2' = q := ⟨p2'.toNat, by omega⟩
        obtain ⟨q3, rfl⟩ : ∃ q : Nat, p3' = q := ⟨p3'.toNat, by omega⟩
        have r4 := rest4 (a := xs) (q0 := q0) (q1 := q1) (q2 := q2) (q3 := q3) (by omega) (by omega) (by omega) (by omega)
        have l1 : (xs.eraseIdx q3).length = n + 3 := by rw [List.length_eraseIdx, if_pos (by omega)]; omega
        have l2 : ((xs.eraseIdx q3).eraseIdx q2).length = n + 2 := by rw [List.length_eraseIdx, if_pos (by omega)]; omega
        have l3 : (((xs.eraseIdx q3).eraseIdx q2).eraseIdx q1).length = n + 1 := by rw [List.length_eraseIdx, if_pos (by omega)]; omega
        have l4 : ((((xs.eraseIdx q3).eraseIdx q2).eraseIdx q1).eraseIdx q0).length = n := by rw [List.length_eraseIdx, if_pos (by omega)]; omega
        have g0 : (xs ++ zs).getD q3 0 = xs.getD q3 0 := by
          rw [List.getD_eq_getElem?_getD, List.getD_eq_getElem?_getD, List.getElem?_append_left (by omega)]
        have g1 : (xs.eraseIdx q3 ++ 0 :: zs).getD q2 0 = xs.getD q2 0 := by
          rw [List.getD_eq_getElem?_getD, List.getElem?_append_left (by omega), ← List.getD_eq_getElem?_getD, getD_erase_lt (by omega)]
        have g2 : ((xs.eraseIdx q3).eraseIdx q2 ++ 0 :: 0 :: zs).getD q1 0 = xs.getD q1 0 := by
          rw [List.getD_eq_getElem?_getD, List.getElem?_append_left (by omega), ← List.getD_eq_getElem?_getD, getD_erase_lt (by omega), getD_erase_lt (by omega)]
        have g3 : (((xs.eraseIdx q3).eraseIdx q2).eraseIdx q1 ++ 0 :: 0 :: 0 :: zs).getD q0 0 = xs.getD q0 0 := by
          rw [List.getD_eq_getElem?_getD, List.getElem?_append_left (by omega), ← List.getD_eq_getElem?_getD, getD_erase_lt (by omega), getD_erase_lt (by omega), getD_erase_lt (by omega)]
        have hsum : sumAt xs [(q0 : Int), q1, q2, q3] = xs.getD q3 0 + xs.getD q2 0 + xs.getD q1 0 + xs.getD q0 0 := by
          simp only [sumAt, List.map_cons, List.map_nil, List.sum_cons, List.sum_nil, Int.toNat_natCast]; omega
        have v0 := ha_get h3 (k := q0) (by omega)
        have v1 := ha_get h3 (k := q1) (by omega)
        have v2 := ha_get h3 (k := q2) (by omega)
        have v3 := ha_get h3 (k := q3) (by omega)
        have t0 : ((q0 : Nat) : Int).toNat = q0 := Int.toNat_natCast q0
        have t1 : ((q1 : Nat) : Int).toNat = q1 := Int.toNat_natCast q1
        have t2 : ((q2 : Nat) : Int).toNat = q2 := Int.toNat_natCast q2
        have t3 : ((q3 : Nat) : Int).toNat = q3 := Int.toNat_natCast q3
        have es6 : List.take (0 + n) (ints ((((xs.eraseIdx q3).eraseIdx q2).eraseIdx q1).eraseIdx q0 ++ 0 :: 0 :: 0 :: 0 :: zs)) ++ [D.int .i64 (0 + xs.getD q3 0 + xs.getD q2 0 + xs.getD q1 0 + xs.getD q0 0)] ++
            List.drop (0 + n + 1) (ints ((((xs.eraseIdx q3).eraseIdx q2).eraseIdx q1).eraseIdx q0 ++ 0 :: 0 :: 0 :: 0 :: zs)) = ints ((rest xs [(q0 : Int), q1, q2, q3] ++ [sumAt xs [(q0 : Int), q1, q2, q3]]) ++ 0 :: 0 :: 0 :: zs) := by
          rw [r4, hsum, Nat.zero_add, Int.zero_add, ints_take', ints_drop', List.take_append_of_le_length (by omega), List.take_of_length_le (by omega), List.drop_append, List.drop_eq_nil_of_le (by omega), l4, show n + 1 - n = 1 by omega]
          rw [show [D.int .i64 (xs.getD q3 0 + xs.getD q2 0 + xs.getD q1 0 + xs.getD q0 0)] = ints [xs.getD q3 0 + xs.getD q2 0 + xs.getD q1 0 + xs.getD q0 0] from rfl, ints_append, ints_append]
          rfl
        rw [hn]
        refine mset_d0 (p3 := (q3 : Int)) (ys1 := xs.eraseIdx q3 ++ 0 :: zs) (by omega) (by omega) (by omega) (by rw [List.length_append]; omega) (by rw [t3, g0]; unfold inInt; omega) (by
          have := del_does (xs := xs) (zs := zs) (n := n + 3) (c := n + 4 + zs.length) (i := (q3 : Int)) (by omega) (by omega) (by omega) (by omega) (by omega)
          rw [t3] at this; exact this) ?_
        refine mset_d1 (ys2 := (xs.eraseIdx q3).eraseIdx q2 ++ 0 :: 0 :: zs) (by omega) (by omega) (by omega) (by rw [List.length_append]; omega) (by rw [t3, t2, g0, g1]; unfold inInt; omega) (by
          have := del_does (xs := xs.eraseIdx q3) (zs := 0 :: zs) (n := n + 2) (c := n + 4 + zs.length) (i := (q2 : Int)) (by omega) (by omega) (by omega) (by omega) (by omega)
          rw [t2] at this; exact this) ?_
        refine mset_d2 (ys3 := ((xs.eraseIdx q3).eraseIdx q2).eraseIdx q1 ++ 0 :: 0 :: 0 :: zs) (by omega) (by omega) (by omega) (by rw [List.length_append]; omega) (by rw [t3, t2, t1, g0, g1, g2]; unfold inInt; omega) (by
          have := del_does (xs := (xs.eraseIdx q3).eraseIdx q2) (zs := 0 :: 0 :: zs) (n := n + 1) (c := n + 4 + zs.length) (i := (q1 : Int)) (by omega) (by omega) (by omega) (by omega) (by omega)
          rw [t1] at this; exact this) ?_
        refine mset_d3 (ys4 := (((xs.eraseIdx q3).eraseIdx q2).eraseIdx q1).eraseIdx q0 ++ 0 :: 0 :: 0 :: 0 :: zs) (by omega) (by omega) (by omega) (by rw [List.length_append]; omega) (by rw [t3, t2, t1, t0, g0, g1, g2, g3]; unfold inInt; omega) (by
          have := del_does (xs := ((xs.eraseIdx q3).eraseIdx q2).eraseIdx q1) (zs := 0 :: 0 :: 0 :: zs) (n := n) (c := n + 4 + zs.length) (i := (q0 : Int)) (by omega) (by omega) (by omega) (by omega) (by omega)
          rw [t0] at this; exact this) ?_
        refine mset_app (by omega) (by rw [List.length_append]; simp only [List.length_cons]; omega) (by rw [t3, t2, t1, t0, g0, g1, g2, g3]; unfold inInt; omega) ?_
        have fin : ∀ (ms : Int) (es : List D), es = ints ((rest xs [(q0 : Int), q1, q2, q3] ++ [sumAt xs [(q0 : Int), q1, q2, q3]]) ++ 0 :: 0 :: 0 :: zs) → ms = m + sumAt xs [(q0 : Int), q1, q2, q3] →
            Ends c0 0 (HS (vOf (refPick (rest xs [(q0 : Int), q1, q2, q3] ++ [sumAt xs [(q0 : Int), q1, q2, q3]]))) (n + 1) (n + 4 + zs.length) es ms) (fun v rows => convV (liveAt rows) v = some (.tup [L (settleN f (rest xs [(q0 : Int), q1, q2, q3] ++ [sumAt xs [(q0 : Int), q1, q2, q3]]) (m + sumAt xs [(q0 : Int), q1, q2, q3])).1, I (settleN f (rest xs [(q0 : Int), q1, q2, q3] ++ [sumAt xs [(q0 : Int), q1, q2, q3]]) (m + sumAt xs [(q0 : Int), q1, q2, q3])).2])) := by
          intro ms es e1 e2
          subst e1 e2
          rw [show n + 4 + zs.length = n + 1 + (0 :: 0 :: 0 :: zs).length by simp only [List.length_cons]; omega]
          exact h6
        rw [← es6] at hd6
        have hms : m + (0 + xs.getD q3 0 + xs.getD q2 0 + xs.getD q1 0 + xs.getD q0 0) = m + sumAt xs [(q0 : Int), q1, q2, q3] := by rw [hsum]; omega
        have fin' := fin _ _ es6 hms
        have z0 : (xs ++ zs).getD (0 + ((q3 : Nat) : Int).toNat) 0 = xs.getD q3 0 := by rw [t3, Nat.zero_add]; exact g0
        have z1 : (xs.eraseIdx q3 ++ 0 :: zs).getD (0 + ((q2 : Nat) : Int).toNat) 0 = xs.getD q2 0 := by rw [t2, Nat.zero_add]; exact g1
        have z2 : ((xs.eraseIdx q3).eraseIdx q2 ++ 0 :: 0 :: zs).getD (0 + ((q1 : Nat) : Int).toNat) 0 = xs.getD q1 0 := by rw [t1, Nat.zero_add]; exact g2
        have z3 : (((xs.eraseIdx q3).eraseIdx q2).eraseIdx q1 ++ 0 :: 0 :: 0 :: zs).getD (0 + ((q0 : Nat) : Int).toNat) 0 = xs.getD q0 0 := by rw [t0, Nat.zero_add]; exact g3
        generalize hr : refPick (rest xs [(q0 : Int), q1, q2, q3] ++ [sumAt xs [(q0 : Int), q1, q2, q3]]) = rp at hd6 fin'
        by_cases hnil : rp = []
        · subst hnil
          refine mset_c2_nil ?_ ?_
          · rw [z0, z1, z2, z3]; exact hd6
          · rw [z0, z1, z2, z3]; exact fin'
        · rw [vOf, if_neg hnil] at hd6 fin'
          refine mset_c2_some (q := rp) ?_ ?_
          · rw [z0, z1, z2, z3]; exact hd6
          · rw [z0, z1, z2, z3]; exact fin'

/-- what merge.Settle returns, where there are counts -/
theorem msettle_rcs {a : List Int} (h0 : a ≠ []) (hb : a.length ≤ 1073741823) (ha : ∀ x ∈ a, 1 ≤ x ∧ x ≤ 4096) : RCs PP 10 [L a] [] (.tup [L (settle a).1, I (settle a).2]) := by
  cases a with
  | nil => exact absurd rfl h0
  | cons x a =>
    refine rcs_of (c := cN) cN_ok (by kernel_rfl) (Ends.cfg rfl (c := c0) ?_)
    refine mset_start (by simp at hb; omega) ?_
    rw [Nat.zero_add, ints_len]
    have h := mset_loop hb (x :: a).length (x :: a) [] 0 (Nat.le_refl _) (by simp) ha (Int.le_refl _) (by omega)
    have hd := pick_does (xs := x :: a) (zs := []) (c := (x :: a).length) (by omega) ha
    rw [List.append_nil] at h hd
    simp only [List.length_nil, Nat.add_zero] at h
    generalize refPick (x :: a) = rp at h hd
    by_cases hnil : rp = []
    · subst hnil
      exact mset_c1_nil hd h
    · rw [vOf, if_neg hnil] at h hd
      exact mset_c1_some hd h
end Go.Aev.M33
end
/- M33LawDefs -/
section
namespace Go.Aev.M33
set_option maxRecDepth 1000000
set_option linter.unusedVariables false
/-- that a function's examples hold is a hypothesis here: the run is in another text -/
def San : Prop := RCs PP 7 [] [] (B true)
/-- what Settle says -/
def Settled (xs s : List Int) (m : Int) : Prop := settle xs = (s, m)
/-- the calls of the laws: r is what Pick says, (s, m) what Settle says -/
def tabL (r : V) (s : List Int) (m : Int) (g : FuncId) (args : List V) (rows : Aev.Rows) : Option (List Prop × V) :=
  match g, args with
  | 7, [] => some ([], B true)
  | 6, [v, .d (.int .i64 80)] => match listOf rows v with
    | some (ps, es) => some (ps ++ [isInts es, es.length ≤ 4611686018427387904], B (okC (es.map unI)))
    | none => none
  | 10, [v] => match listOf rows v with
    | some (ps, es) => some (ps ++ [isInts es, es.map unI ≠ [], es.length ≤ 1073741823, ∀ x ∈ es.map unI, 1 ≤ x ∧ x ≤ 4096, Settled (es.map unI) s m], .tup [L s, I m])
    | none => none
  | 11, [v] => match listOf rows v with
    | some (ps, es) => some (ps ++ [isInts es, 0 < es.length, es.length ≤ 1073741824, ∀ x ∈ es.map unI, 1 ≤ x ∧ x ≤ 4096, Settled (es.map unI) s m], .d (.agg [.list (ints s), .int .i64 m]))
    | none => none
  | 13, [v] => match listOf rows v with
    | some (ps, es) => some (ps ++ [isInts es, es.length ≤ 1073741824, ∀ x ∈ es.map unI, 1 ≤ x ∧ x ≤ 4096, vOf (refPick (es.map unI)) = r], r)
    | none => none
  | 14, [v] => match listOf rows v with
    | some (ps, es) => some (ps ++ [isInts es, es.length ≤ 1073741824, ∀ x ∈ es.map unI, 1 ≤ x ∧ x ≤ 4096, vOf (refPick (es.map unI)) = r], r)
    | none => none
  | _, _ => tab1 g args rows
theorem arg1 {rows : Aev.Rows} {v : V} {ps : List Prop} {es : List D} (hl : listOf rows v = some (ps, es)) (h1 : AllP ps) (h2 : isInts es) : ArgsRel rows [v] [L (es.map unI)] := by
  have e : L (es.map unI) = .d (.list es) := by unfold isInts at h2; rw [L, ← h2]
  rw [e]; exact .cons (.list hl h1) .nil
theorem tabL_ok (san : San) {r : V} {s : List Int} {m : Int} {g : FuncId} {args : List V} {rows : Aev.Rows} {ps : List Prop} {v : V} (h : tabL r s m g args rows = some (ps, v)) (hp : AllP ps) : RCs PP g args rows v := by
  unfold tabL at h
  split at h
  · cases h; exact san.of_lists .nil
  · split at h
    · rename_i qs es hl
      cases h
      obtain ⟨h1, h2, h3, _⟩ := AllP_append hp
      refine (counts_rcs (es.map unI) (by rw [map_len]; exact h3)).of_lists (.cons ?_ (.cons (.data _) .nil))
      have e : L (es.map unI) = .d (.list es) := by unfold isInts at h2; rw [L, ← h2]
      rw [e]; exact .list hl h1
    · cases h
  · split at h
    · rename_i qs es hl
      cases h
      obtain ⟨h1, h2, h3, h4, h5, h6, _⟩ := AllP_append hp
      have := msettle_rcs h3 (by rw [map_len]; exact h4) h5
      unfold Settled at h6
      rw [h6] at this
      exact this.of_lists (arg1 hl h1 h2)
    · cases h
  · split at h
    · rename_i qs es hl
      cases h
      obtain ⟨h1, h2, h3, h4, h5, h6, _⟩ := AllP_append hp
      have := refSettle_rcs (by rw [map_len]; exact h3) (by rw [map_len]; exact h4) h5
      unfold Settled at h6
      rw [h6] at this
      exact this.of_lists (arg1 hl h1 h2)
    · cases h
  · split at h
    · rename_i qs es hl
      cases h
      obtain ⟨h1, h2, h3, h4, h5, _⟩ := AllP_append hp
      have := mpick_rcs (by rw [map_len]; exact h3) h4
      rw [h5] at this
      exact this.of_lists (arg1 hl h1 h2)
    · cases h
  · split at h
    · rename_i qs es hl
      cases h
      obtain ⟨h1, h2, h3, h4, h5, _⟩ := AllP_append hp
      have := refPick_rcs (by rw [map_len]; exact h3) h4
      rw [h5] at this
      exact this.of_lists (arg1 hl h1 h2)
    · cases h
  · exact tab1_ok h hp
noncomputable def cL (r : V) (s : List Int) (m : Int) : SCfg := mk (fun _ => true) (tabL r s m)
theorem cL_ok (san : San) (r : V) (s : List Int) (m : Int) : COK (cL r s m).cfg := mk_ok (fun g args rows ps v h hp => tabL_ok san h hp)
noncomputable def td3 : List AItem := (nextOf (sTo (cL .nil [] 0) (gds [(9,false)]) (atLoop 2) 300 (start (cL .nil [] 0) 3 [L [0]] []))).fr.todo
/-- law 1 at its loop -/
noncomputable def HL (a : List Int) (k : Int) : AS := hd 3 td3 55 [(0, L a), (3, I k)] []
end Go.Aev.M33
end
/- M33Law1Steps -/
section
namespace Go.Aev.M33
set_option maxRecDepth 1000000
set_option linter.unusedSimpArgs false
set_option linter.unusedVariables false
theorem law1_go (san : San) {a : List Int} {Q : V → Aev.Rows → Prop} (h0 : okC a = true) (hb : a.length ≤ 4611686018427387904) (h : Ends c0 0 (HL a 0) Q) : Ends c0 0 (start c0 3 [L a] []) Q :=
  Ends.cfg rfl (Ends.turn (c := (cL .nil [] 0)) (cL_ok san _ _ _) (gds [(9,false)]) (atLoop 2) 300 [] [0, 3] (ps := [isInts (ints a), List.length (ints a) ≤ nat_lit 4611686018427387904, (!okC (List.map unI (ints a))) = false]) (by kernel_rfl) (by
    (try simp only [AllP, Int.toNat_natCast, ints_len, decide_eq_true_eq, decide_eq_false_iff_not, beq_eq_false_iff_ne, beq_iff_eq, bne_iff_ne, bne_eq_false_iff_eq, Bool.not_eq_true', Bool.not_eq_false', Int.not_lt, Int.not_le, gt_iff_lt, ge_iff_le, ne_eq, and_true, true_and, unI_ints, Nat.zero_add, List.length_set, Nat.le_refl, List.length_cons, List.length_nil, Nat.sub_zero, Int.zero_add, decide_eq_true_eq])
    all_goals (repeat' (first | with_reducible assumption | with_reducible rfl | omega | with_reducible exact ints_get (by omega) | with_reducible apply And.intro | unfold inInt | with_reducible exact isInts_ints _ | exact rfl))) (Ends.cfg rfl h))
theorem law1_bad (san : San) {a : List Int} {Q : V → Aev.Rows → Prop} (h0 : okC a = false) (hb : a.length ≤ 4611686018427387904) (h : ∀ rows, Q (B true) rows) : Ends c0 0 (start c0 3 [L a] []) Q :=
  Ends.cfg rfl (Ends.finR (c := (cL .nil [] 0)) (cL_ok san _ _ _) (gds [(9,true)]) 300 (ps := [isInts (ints a), List.length (ints a) ≤ nat_lit 4611686018427387904, (!okC (List.map unI (ints a))) = true]) (v := B true) (by kernel_rfl) (by
    (try simp only [AllP, Int.toNat_natCast, ints_len, decide_eq_true_eq, decide_eq_false_iff_not, beq_eq_false_iff_ne, beq_iff_eq, bne_iff_ne, bne_eq_false_iff_eq, Bool.not_eq_true', Bool.not_eq_false', Int.not_lt, Int.not_le, gt_iff_lt, ge_iff_le, ne_eq, and_true, true_and, unI_ints, Nat.zero_add, List.length_set, Nat.le_refl, List.length_cons, List.length_nil, Nat.sub_zero, Int.zero_add, decide_eq_true_eq])
    all_goals (repeat' (first | with_reducible assumption | with_reducible rfl | omega | with_reducible exact ints_get (by omega) | with_reducible apply And.intro | unfold inInt | with_reducible exact isInts_ints _ | exact rfl))) h)
theorem law1_turn (san : San) {a : List Int} {k : Int} {Q : V → Aev.Rows → Prop} (h0 : 0 ≤ k) (h1 : k < (a.length : Int)) (hb : a.length ≤ 1073741824) (hx : a.getD k.toNat 0 ≤ 4096) (h : Ends c0 0 (HL a (k + 1)) Q) : Ends c0 0 (HL a k) Q :=
  Ends.cfg rfl (Ends.turn (c := (cL .nil [] 0)) (cL_ok san _ _ _) (gds [(14,true),(27,false)] [(17, el a), (22, el a)]) (atLoop 2) 300 [] [0, 3] (ps := [decide (k < (↑(List.length (ints a)) : Int)) = true, (0 : Int) ≤ k ∧ k < (↑(List.length (ints a)) : Int), (ints a)[Int.toNat k]? = some (D.int IntKind.i64 (List.getD a (Int.toNat k) (0 : Int))), nat_lit 1 = nat_lit 1, List.getD a (Int.toNat k) (0 : Int) ≤ (4096 : Int), (0 : Int) ≤ k ∧ k < (↑(List.length (ints a)) : Int), (ints a)[Int.toNat k]? = some (D.int IntKind.i64 (List.getD a (Int.toNat k) (0 : Int))), nat_lit 1 = nat_lit 1, List.getD a (Int.toNat k) (0 : Int) ≤ (4096 : Int), (cls (List.getD a (Int.toNat k) (0 : Int)) != cls (List.getD a (Int.toNat k) (0 : Int))) = false, inInt (k + (1 : Int))]) (by kernel_rfl) (by
    (try simp only [AllP, Int.toNat_natCast, ints_len, decide_eq_true_eq, decide_eq_false_iff_not, beq_eq_false_iff_ne, beq_iff_eq, bne_iff_ne, bne_eq_false_iff_eq, Bool.not_eq_true', Bool.not_eq_false', Int.not_lt, Int.not_le, gt_iff_lt, ge_iff_le, ne_eq, and_true, true_and, unI_ints, Nat.zero_add, List.length_set, Nat.le_refl, List.length_cons, List.length_nil, Nat.sub_zero, Int.zero_add, decide_eq_true_eq])
    all_goals (repeat' (first | with_reducible assumption | with_reducible rfl | omega | with_reducible exact ints_get (by omega) | with_reducible apply And.intro | unfold inInt | with_reducible exact isInts_ints _ | exact rfl))) (Ends.cfg rfl h))
theorem law1_end_nil (san : San) {a s : List Int} {k m : Int} {Q : V → Aev.Rows → Prop} (h0 : (a.length : Int) ≤ k) (h1 : 0 < a.length) (hne : a ≠ []) (hb : a.length ≤ 80) (ha : ∀ x ∈ a, 1 ≤ x ∧ x ≤ 4096) (hr : vOf (refPick a) = .nil) (hs : Settled a s m) (hsl : s.length ≤ 80) (h : ∀ rows, Q (.d (.bool (m == m))) rows) : Ends c0 0 (HL a k) Q :=
  Ends.cfg rfl (Ends.finR (c := (cL .nil s m)) (cL_ok san _ _ _) (gds [(14,false),(43,true),(49,true)]) 300 (ps := [decide (k < (↑(List.length (ints a)) : Int)) = false, isInts (ints a), List.map unI (ints a) ≠ [], List.length (ints a) ≤ nat_lit 1073741823, ∀ (x : Int), x ∈ List.map unI (ints a) → (1 : Int) ≤ x ∧ x ≤ (4096 : Int), Settled (List.map unI (ints a)) s m, isInts (ints a), nat_lit 0 < List.length (ints a), List.length (ints a) ≤ nat_lit 1073741824, ∀ (x : Int), x ∈ List.map unI (ints a) → (1 : Int) ≤ x ∧ x ≤ (4096 : Int), Settled (List.map unI (ints a)) s m, isInts (ints a), List.length (ints a) ≤ nat_lit 1073741824, ∀ (x : Int), x ∈ List.map unI (ints a) → (1 : Int) ≤ x ∧ x ≤ (4096 : Int), vOf (refPick (List.map unI (ints a))) = V.nil, isInts (ints a), List.length (ints a) ≤ nat_lit 1073741824, ∀ (x : Int), x ∈ List.map unI (ints a) → (1 : Int) ≤ x ∧ x ≤ (4096 : Int), vOf (refPick (List.map unI (ints a))) = V.nil, isInts [], isInts [], nat_lit 0 ≤ nat_lit 4611686018427387904, true = true, true = true, true = true, true = true, isInts (ints s), isInts (ints s), List.length (ints s) ≤ nat_lit 4611686018427387904, true = true, decide (List.map unI (ints s) = List.map unI (ints s)) = true, decide (List.map unI (ints s) = List.map unI (ints s)) = true, decide (List.map unI (ints s) = List.map unI (ints s)) = true, decide (List.map unI (ints s) = List.map unI (ints s)) = true, decide (List.map unI (ints s) = List.map unI (ints s)) = true]) (v := .d (.bool (m == m))) (by kernel_rfl) (by
    (try simp only [AllP, Int.toNat_natCast, ints_len, decide_eq_true_eq, decide_eq_false_iff_not, beq_eq_false_iff_ne, beq_iff_eq, bne_iff_ne, bne_eq_false_iff_eq, Bool.not_eq_true', Bool.not_eq_false', Int.not_lt, Int.not_le, gt_iff_lt, ge_iff_le, ne_eq, and_true, true_and, unI_ints, Nat.zero_add, List.length_set, Nat.le_refl, List.length_cons, List.length_nil, Nat.sub_zero, Int.zero_add, decide_eq_true_eq])
    all_goals (repeat' (first | with_reducible assumption | with_reducible rfl | omega | with_reducible exact ints_get (by omega) | with_reducible apply And.intro | unfold inInt | with_reducible exact isInts_ints _ | exact rfl))) h)
theorem law1_end_some (san : San) {q : List Int} {a s : List Int} {k m : Int} {Q : V → Aev.Rows → Prop} (h0 : (a.length : Int) ≤ k) (h1 : 0 < a.length) (hne : a ≠ []) (hb : a.length ≤ 80) (ha : ∀ x ∈ a, 1 ≤ x ∧ x ≤ 4096) (hr : vOf (refPick a) = (L q)) (hs : Settled a s m) (hsl : s.length ≤ 80) (hq : q.length ≤ 80) (h : ∀ rows, Q (.d (.bool (m == m))) rows) : Ends c0 0 (HL a k) Q :=
  Ends.cfg rfl (Ends.finR (c := (cL (L q) s m)) (cL_ok san _ _ _) (gds [(14,false),(43,true),(49,true)]) 300 (ps := [decide (k < (↑(List.length (ints a)) : Int)) = false, isInts (ints a), List.map unI (ints a) ≠ [], List.length (ints a) ≤ nat_lit 1073741823, ∀ (x : Int), x ∈ List.map unI (ints a) → (1 : Int) ≤ x ∧ x ≤ (4096 : Int), Settled (List.map unI (ints a)) s m, isInts (ints a), nat_lit 0 < List.length (ints a), List.length (ints a) ≤ nat_lit 1073741824, ∀ (x : Int), x ∈ List.map unI (ints a) → (1 : Int) ≤ x ∧ x ≤ (4096 : Int), Settled (List.map unI (ints a)) s m, isInts (ints a), List.length (ints a) ≤ nat_lit 1073741824, ∀ (x : Int), x ∈ List.map unI (ints a) → (1 : Int) ≤ x ∧ x ≤ (4096 : Int), vOf (refPick (List.map unI (ints a))) = L q, isInts (ints a), List.length (ints a) ≤ nat_lit 1073741824, ∀ (x : Int), x ∈ List.map unI (ints a) → (1 : Int) ≤ x ∧ x ≤ (4096 : Int), vOf (refPick (List.map unI (ints a))) = L q, isInts (ints q), isInts (ints q), List.length (ints q) ≤ nat_lit 4611686018427387904, decide (List.map unI (ints q) = List.map unI (ints q)) = true, decide (List.map unI (ints q) = List.map unI (ints q)) = true, decide (List.map unI (ints q) = List.map unI (ints q)) = true, decide (List.map unI (ints q) = List.map unI (ints q)) = true, isInts (ints s), isInts (ints s), List.length (ints s) ≤ nat_lit 4611686018427387904, decide (List.map unI (ints q) = List.map unI (ints q)) = true, decide (List.map unI (ints s) = List.map unI (ints s)) = true, decide (List.map unI (ints s) = List.map unI (ints s)) = true, decide (List.map unI (ints s) = List.map unI (ints s)) = true, decide (List.map unI (ints s) = List.map unI (ints s)) = true, decide (List.map unI (ints s) = List.map unI (ints s)) = true]) (v := .d (.bool (m == m))) (by kernel_rfl) (by
    (try simp only [AllP, Int.toNat_natCast, ints_len, decide_eq_true_eq, decide_eq_false_iff_not, beq_eq_false_iff_ne, beq_iff_eq, bne_iff_ne, bne_eq_false_iff_eq, Bool.not_eq_true', Bool.not_eq_false', Int.not_lt, Int.not_le, gt_iff_lt, ge_iff_le, ne_eq, and_true, true_and, unI_ints, Nat.zero_add, List.length_set, Nat.le_refl, List.length_cons, List.length_nil, Nat.sub_zero, Int.zero_add, decide_eq_true_eq])
    all_goals (repeat' (first | with_reducible assumption | with_reducible rfl | omega | with_reducible exact ints_get (by omega) | with_reducible apply And.intro | unfold inInt | with_reducible exact isInts_ints _ | exact rfl))) h)
end Go.Aev.M33
end
/- AevSym8 -/
section
/- An empty slice against nil: either way. -/
namespace Go.Aev
variable {w0 : World} {own : Own} {m : Mp} {S : Nat → Prop} {w : World} {rows : Rows}

/-- the state behind a comparison of an empty slice with nil, which said b -/
def anyNil (c : Cfg) (s : AS) (b : Bool) : Option AS :=
  match s.fr.todo with
  | .it (.inRegion ops (i :: rest)) :: kk => match ops[i]? with
    | some o => match o.op with
      | .binOp .eql t x y _ => match wantedA ops s.fr.env o, c.T t, evalO s.fr.env x, evalO s.fr.env y with
        | some true, some ty, some (.d (.list [])), some .nil => match ty.desc with
          | .slice _ => some { s with fr := { s.fr with env := setTmp s.fr.env o.dst (.d (.bool b)), todo := .it (.inRegion ops rest) :: kk } }
          | _ => none
        | _, _, _, _ => none
      | _ => none
    | none => none
  | _ => none

theorem Ends.anyNil {c : SCfg} (hc : COK c.cfg) {k : Nat} {s : AS} {Q : V → Rows → Prop} (h : ∀ b : Bool, ∃ s', Aev.anyNil c.cfg s b = some s' ∧ Ends c k s' Q) : Ends c k s Q := by
  intro w0 own bt f M hb hs
  obtain ⟨hbf, m, S, w, tmps, todo, ds, ro, cs, rfl, inv, hfr, hst⟩ := hs
  have ht := hfr.todo
  have key : ∃ b : Bool, ∀ s', Aev.anyNil c.cfg s b = some s' → ∃ M', Steps c.P (lone (rfr s.fr.fn tmps todo ds ro) cs w) M' ∧ SimF c.P w0 own bt f s' M' := by
    obtain ⟨s1, e1, _⟩ := h true
    unfold Aev.anyNil at e1
    split at e1
    · rename_i ops i rest kk htodo
      rw [htodo] at ht
      cases ht with
      | cons hi tl =>
      rename_i kr
      cases hi
      split at e1
      · rename_i o ho
        split at e1
        · rename_i t x y z hop
          split at e1
          · rename_i ty hw hT hx hy
            split at e1
            · rename_i el hd
              have hρ := opRel_of (fn := s.fr.fn) (todo := .inRegion ops (i :: rest) :: kr) (ds := ds) (ro := ro) hfr.env
              have hxr := RV_d_inv (hρ x _ hx)
              have hyr := hρ y _ hy
              have hw' := wanted_rel hfr.env hw
              have hyr' : (rfr s.fr.fn tmps (.inRegion ops (i :: rest) :: kr) ds ro).eval y = .slice none 0 0 := by
                generalize (rfr s.fr.fn tmps (.inRegion ops (i :: rest) :: kr) ds ro).eval y = yv at hyr
                cases hyr; rfl
              have hxr' : ∃ p n cap, (rfr s.fr.fn tmps (.inRegion ops (i :: rest) :: kr) ds ro).eval x = .slice p n cap := by
                generalize (rfr s.fr.fn tmps (.inRegion ops (i :: rest) :: kr) ds ro).eval x = xv at hxr
                cases hxr with
                | emp p cap => exact ⟨_, _, _, rfl⟩
                | row es b o cap k n vs => exact ⟨_, _, _, rfl⟩
              obtain ⟨p, n, cap, hxe⟩ := hxr'
              have hpair : NilPair ty.desc (.slice p n cap) (.slice none 0 0) p.isNone := by
                rw [hd]
                cases p with
                | none => exact .s0 ..
                | some q => exact .s1 ..
              obtain ⟨h1, h2, h3, h4⟩ := nilPair_run (P := c.P) (w := w) (show tyOf c.P t = some ty from hc.T t ty hT) hpair
              refine ⟨p.isNone, fun s' he => ?_⟩
              unfold Aev.anyNil at he
              simp only [htodo, ho, hop, hw, hT, hx, hy, hd] at he
              cases he
              have hnd : ∀ cc, o.op ≠ .defer cc := by rw [hop]; intro cc hcc; cases hcc
              have hrun : (execOp (rfr s.fr.fn tmps (.inRegion ops (i :: rest) :: kr) ds ro).eval o).run c.P w = .ok (.value (.bool p.isNone)) w := by
                obtain ⟨dst, op, type, pos, after, guard⟩ := o
                simp only at hop
                subst hop
                have h0 : (do eqGuard .eql t x y ((rfr s.fr.fn tmps (.inRegion ops (i :: rest) :: kr) ds ro).eval x) ((rfr s.fr.fn tmps (.inRegion ops (i :: rest) :: kr) ds ro).eval y); binOp .eql t ((rfr s.fr.fn tmps (.inRegion ops (i :: rest) :: kr) ds ro).eval x) ((rfr s.fr.fn tmps (.inRegion ops (i :: rest) :: kr) ds ro).eval y) : Sem Value).run c.P w = .ok (.bool p.isNone) w := by
                  rw [hxe, hyr']
                  simp only [Sem.run_bind, h2, Result.andThen_ok, h3, h1, Sem.run_pure]
                have h5 : ∀ (sv : Sem Value) (u : Value), sv.run c.P w = .ok u w → (do pure (Next.value (← sv)) : Sem Next).run c.P w = .ok (.value u) w := fun sv u hh => by simp [hh]
                exact h5 _ _ h0
              refine ⟨_, .one (m_op ho hw' hnd hrun (.inl rfl)), ?_, m, S, w, _, _, ds, ro, cs, rfl, inv, ⟨putT_rel hfr.env (.d _ _ (.bool _)) o.dst, .cons rfl tl, hfr.ds, hfr.ro⟩, hst⟩
              show botFn _ s.stack = f
              rw [botFn_eq] at hbf ⊢
              exact hbf
            · cases e1
          · cases e1
        · cases e1
      · cases e1
    · cases e1
  obtain ⟨b, hk⟩ := key
  obtain ⟨s', e1, e2⟩ := h b
  obtain ⟨M', st, hs'⟩ := hk s' e1
  obtain ⟨v, rows', hq, hf⟩ := e2 w0 own bt f M' hb hs'
  exact ⟨v, rows', hq, hf.of_steps st⟩
end Go.Aev
end
/- M33EmptyDefs -/
section
namespace Go.Aev.M33
set_option maxRecDepth 1000000
set_option linter.unusedVariables false
/-- the laws' table, Settle and Clone stepped into -/
noncomputable def cE : SCfg := mk (fun g => !(Nat.beq g 10 || Nat.beq g 11 || Nat.beq g 22)) (tabL .nil [] 0)
theorem cE_ok (san : San) : COK cE.cfg := mk_ok (fun g args rows ps v h hp => tabL_ok san h hp)
/-- in Clone, one operation before the comparison -/
def atNil (s : AS) : Bool := Nat.beq s.fr.fn 22 && (match s.fr.todo with
  | .it (.inRegion _ (0 :: 1 :: [])) :: _ => true
  | _ => false)
noncomputable def sE (g : FuncId) : AS := nextOf (sTo cE (gds [(9,false),(14,false),(43,true),(49,true)] [] 3) atNil 300 (start cE g [L []] []))
noncomputable def sEb (g : FuncId) (b : Bool) : AS := (anyNil cE.cfg (sE g) b).getD (sE g)
end Go.Aev.M33
end
/- M33Empty -/
section
namespace Go.Aev.M33
set_option maxRecDepth 1000000
set_option linter.unusedSimpArgs false
set_option linter.unusedVariables false
theorem ints_nil : ints ([] : List Int) = [] := rfl
theorem refPick_e : refPick ([] : List Int) = [] := settleN_enough 0 [] 0 (by simp) (by simp)
theorem refPick_nil : vOf (refPick []) = .nil := by rw [refPick_e]; rfl
theorem empty_to (san : San) {Q : V → Aev.Rows → Prop} (h : ∀ b, Ends c0 0 (sEb 3 b) Q) : Ends c0 0 (start cE 3 [L []] []) Q :=
  Ends.cfg rfl (Ends.to (c := cE) (cE_ok san) (gds [(9,false),(14,false),(43,true),(49,true)] [] 3) atNil 300 (s' := sE 3) (ps := [isInts [], nat_lit 0 ≤ nat_lit 4611686018427387904, false = false, false = false]) (by kernel_rfl) (by
    (try simp only [AllP, Int.toNat_natCast, ints_len, decide_eq_true_eq, decide_eq_false_iff_not, beq_eq_false_iff_ne, beq_iff_eq, bne_iff_ne, bne_eq_false_iff_eq, Bool.not_eq_true', Bool.not_eq_false', Int.not_lt, Int.not_le, gt_iff_lt, ge_iff_le, ne_eq, and_true, true_and, unI_ints, Nat.zero_add, List.length_cons, List.length_nil, Nat.sub_zero, Int.zero_add, List.map_nil])
    all_goals (repeat' (first | with_reducible assumption | with_reducible rfl | omega | with_reducible exact ints_get (by omega) | with_reducible apply And.intro | unfold inInt | exact rfl | exact isInts_nil | exact refPick_nil | (intro x hx; exact absurd hx (by simp)) | decide)))
    (Ends.anyNil (cE_ok san) fun b => ⟨sEb 3 b, by cases b <;> kernel_rfl, Ends.cfg rfl (h b)⟩))
theorem empty_true (san : San) {Q : V → Aev.Rows → Prop} (h : ∀ rows, Q (B true) rows) : Ends c0 0 (sEb 3 true) Q :=
  Ends.cfg rfl (Ends.finR (c := cE) (cE_ok san) (gds [(14,false),(43,true),(49,true)] [] 3) 300 (ps := [isInts [], nat_lit 0 ≤ nat_lit 1073741824, ∀ (x : Int), x ∈ [] → (1 : Int) ≤ x ∧ x ≤ (4096 : Int), vOf [] = V.nil, true = true, nat_lit 0 < nat_lit 1 ∧ nat_lit 0 = nat_lit 0, nat_lit 1 = nat_lit 1 ∧ nat_lit 0 ≤ nat_lit 0, isInts [], nat_lit 0 ≤ nat_lit 1073741824, ∀ (x : Int), x ∈ [] → (1 : Int) ≤ x ∧ x ≤ (4096 : Int), vOf [] = V.nil, isInts [], nat_lit 0 ≤ nat_lit 1073741824, ∀ (x : Int), x ∈ [] → (1 : Int) ≤ x ∧ x ≤ (4096 : Int), vOf [] = V.nil, isInts [], nat_lit 0 ≤ nat_lit 1073741824, ∀ (x : Int), x ∈ [] → (1 : Int) ≤ x ∧ x ≤ (4096 : Int), vOf [] = V.nil, isInts [], isInts [], nat_lit 0 ≤ nat_lit 4611686018427387904, true = true, true = true, true = true, true = true, nat_lit 1 = nat_lit 1 ∧ nat_lit 0 ≤ nat_lit 0, isInts [], isInts [], nat_lit 0 ≤ nat_lit 4611686018427387904, true = true, true = true, true = true, true = true, true = true, true = true]) (v := B true) (by kernel_rfl) (by
    (try simp only [AllP, Int.toNat_natCast, ints_len, decide_eq_true_eq, decide_eq_false_iff_not, beq_eq_false_iff_ne, beq_iff_eq, bne_iff_ne, bne_eq_false_iff_eq, Bool.not_eq_true', Bool.not_eq_false', Int.not_lt, Int.not_le, gt_iff_lt, ge_iff_le, ne_eq, and_true, true_and, unI_ints, Nat.zero_add, List.length_cons, List.length_nil, Nat.sub_zero, Int.zero_add, List.map_nil])
    all_goals (repeat' (first | with_reducible assumption | with_reducible rfl | omega | with_reducible exact ints_get (by omega) | with_reducible apply And.intro | unfold inInt | exact rfl | exact isInts_nil | exact refPick_nil | (intro x hx; exact absurd hx (by simp)) | decide))) h)
theorem empty_false (san : San) {Q : V → Aev.Rows → Prop} (h : ∀ rows, Q (B true) rows) : Ends c0 0 (sEb 3 false) Q :=
  Ends.cfg rfl (Ends.finR (c := cE) (cE_ok san) (gds [(14,false),(43,true),(49,true)] [] 3) 300 (ps := [true = true, nat_lit 0 < nat_lit 1 ∧ nat_lit 0 = nat_lit 0, nat_lit 1 = nat_lit 1 ∧ nat_lit 0 ≤ nat_lit 0, isInts [], nat_lit 0 ≤ nat_lit 1073741824, ∀ (x : Int), x ∈ [] → (1 : Int) ≤ x ∧ x ≤ (4096 : Int), vOf [] = V.nil, true = true, nat_lit 0 < nat_lit 1 ∧ nat_lit 0 = nat_lit 0, nat_lit 1 = nat_lit 1 ∧ nat_lit 0 ≤ nat_lit 0, isInts [], nat_lit 0 ≤ nat_lit 1073741824, ∀ (x : Int), x ∈ [] → (1 : Int) ≤ x ∧ x ≤ (4096 : Int), vOf [] = V.nil, isInts [], nat_lit 0 ≤ nat_lit 1073741824, ∀ (x : Int), x ∈ [] → (1 : Int) ≤ x ∧ x ≤ (4096 : Int), vOf [] = V.nil, isInts [], nat_lit 0 ≤ nat_lit 1073741824, ∀ (x : Int), x ∈ [] → (1 : Int) ≤ x ∧ x ≤ (4096 : Int), vOf [] = V.nil, isInts [], isInts [], nat_lit 0 ≤ nat_lit 4611686018427387904, true = true, true = true, true = true, true = true, nat_lit 1 = nat_lit 1 ∧ nat_lit 0 ≤ nat_lit 0, nat_lit 1 = nat_lit 1 ∧ nat_lit 0 ≤ nat_lit 0, isInts [], isInts [], nat_lit 0 ≤ nat_lit 4611686018427387904, true = true, true = true, true = true, true = true, true = true, true = true]) (v := B true) (by kernel_rfl) (by
    (try simp only [AllP, Int.toNat_natCast, ints_len, decide_eq_true_eq, decide_eq_false_iff_not, beq_eq_false_iff_ne, beq_iff_eq, bne_iff_ne, bne_eq_false_iff_eq, Bool.not_eq_true', Bool.not_eq_false', Int.not_lt, Int.not_le, gt_iff_lt, ge_iff_le, ne_eq, and_true, true_and, unI_ints, Nat.zero_add, List.length_cons, List.length_nil, Nat.sub_zero, Int.zero_add, List.map_nil])
    all_goals (repeat' (first | with_reducible assumption | with_reducible rfl | omega | with_reducible exact ints_get (by omega) | with_reducible apply And.intro | unfold inInt | exact rfl | exact isInts_nil | exact refPick_nil | (intro x hx; exact absurd hx (by simp)) | decide))) h)
/-- law 1 over no counts -/
theorem law1_empty (san : San) : RCs PP 3 [L []] [] (B true) := by
  refine rcs_of (c := cE) (cE_ok san) (by kernel_rfl) (Ends.cfg rfl (c := c0) ?_)
  refine empty_to san fun b => ?_
  cases b
  · exact empty_false san fun rows => rfl
  · exact empty_true san fun rows => rfl
end Go.Aev.M33
end
/- M33Law1 -/
section
namespace Go.Aev.M33
open List
set_option maxRecDepth 1000000
set_option linter.unusedVariables false
theorem okC_spec {a : List Int} (h : okC a = true) : (∀ x ∈ a, 1 ≤ x ∧ x ≤ 4096) ∧ a.length ≤ 80 := by
  unfold okC at h
  rw [Bool.and_eq_true, List.all_eq_true, decide_eq_true_eq] at h
  exact ⟨fun x hx => by have := h.1 x hx; simpa using this, h.2⟩
theorem settleN_len : ∀ (n : Nat) (a : List Int) (m : Int), (∀ x ∈ a, 1 ≤ x ∧ x ≤ 4096) → (settleN n a m).1.length ≤ a.length
  | 0, a, m, _ => Nat.le_refl _
  | n + 1, a, m, ha => by
    simp only [settleN]
    split
    · exact Nat.le_refl _
    · rename_i hp
      obtain ⟨h1, h2, _⟩ := next_ok ha hp
      have := settleN_len n _ (m + sumAt a (refPick a)) h1
      omega
theorem refPick_len4 (a : List Int) : (refPick a).length ≤ 4 := by
  by_cases h : refPick a = []
  · rw [h]; simp
  · exact Nat.le_of_eq (refPick_spec h).1
theorem law1_loop (san : San) {a : List Int} (hne : a ≠ []) (hb : a.length ≤ 80) (ha : ∀ x ∈ a, 1 ≤ x ∧ x ≤ 4096) : ∀ (n k : Nat), k + n = a.length → Ends c0 0 (HL a (k : Int)) (fun v rows => convV (liveAt rows) v = some (B true)) := by
  intro n
  induction n with
  | zero =>
    intro k hk
    have hpos : 0 < a.length := by cases a with | nil => exact absurd rfl hne | cons => simp
    have hfin : ∀ m : Int, ∀ rows : Aev.Rows, convV (liveAt rows) (.d (.bool (m == m))) = some (B true) := by
      intro m rows
      have : (m == m) = true := by simp
      rw [this]; rfl
    have hsl := settleN_len a.length a 0 ha
    by_cases hp : refPick a = []
    · exact law1_end_nil san (s := (settle a).1) (m := (settle a).2) (by omega) hpos hne hb ha (by rw [hp]; rfl) rfl (by show (settleN a.length a 0).1.length ≤ 80; omega) (hfin _)
    · exact law1_end_some san (q := refPick a) (s := (settle a).1) (m := (settle a).2) (by omega) hpos hne hb ha (by rw [vOf, if_neg hp]) rfl (by show (settleN a.length a 0).1.length ≤ 80; omega) (by have := refPick_len4 a; omega) (hfin _)
  | succ n ih =>
    intro k hk
    have h := ih (k + 1) (by omega)
    have e : ((k + 1 : Nat) : Int) = (k : Int) + 1 := by omega
    rw [e] at h
    have hx := ha_get ha (k := k) (by omega)
    exact law1_turn san (by omega) (by omega) (by omega) (by rw [Int.toNat_natCast]; exact hx.2) h
/-- MergePicksAsSpecified, over a list of numbers -/
theorem law1_rcs (san : San) {a : List Int} (hb : a.length ≤ 4611686018427387904) : RCs PP 3 [L a] [] (B true) := by
  by_cases hne : a = []
  · subst hne; exact law1_empty san
  · refine rcs_of (c := cL .nil [] 0) (cL_ok san _ _ _) (by kernel_rfl) (Ends.cfg rfl (c := c0) ?_)
    cases hok : okC a with
    | false => exact law1_bad san hok hb fun rows => rfl
    | true =>
      obtain ⟨h1, h2⟩ := okC_spec hok
      exact law1_go san hok hb (law1_loop san hne h2 h1 a.length 0 (by omega))
end Go.Aev.M33
end
/- M33Law2Plain -/
section
/- Plain facts on what merge.Settle leaves. -/
namespace Go.Aev.M33
open List
set_option maxRecDepth 1000000
set_option linter.unusedVariables false
theorem take_sum {a : List Int} {k : Nat} (h : k < a.length) : (a.take (k + 1)).sum = (a.take k).sum + a.getD k 0 := by
  rw [List.take_succ_eq_append_getElem h, List.sum_append]
  have : a.getD k 0 = a[k] := by simp [h]
  rw [this]; simp
theorem restTo_sum (a l : List Int) : ∀ k, k ≤ a.length → (restTo a l k).sum + sumAt a (upTo l k) = (a.take k).sum
  | 0, _ => by simp [restTo, upTo, sumAt]
  | k + 1, h => by
    have ih := restTo_sum a l k (by omega)
    rw [take_sum (by omega), upTo_succ]
    simp only [restTo]
    by_cases hm : (k : Int) ∈ l
    · rw [if_pos hm, if_pos hm, sumAt_app]
      have : sumAt a [(k : Int)] = a.getD k 0 := by simp [sumAt]
      omega
    · rw [if_neg hm, if_neg hm, List.sum_append]
      simp; omega
theorem next_sum {a : List Int} (h : refPick a ≠ []) : (rest a (refPick a) ++ [sumAt a (refPick a)]).sum = a.sum := by
  obtain ⟨h1, h2, h3, _⟩ := refPick_spec h
  have e := restTo_sum a (refPick a) a.length (Nat.le_refl _)
  rw [List.take_length, sumAt_perm (upTo_perm h2 h3)] at e
  rw [List.sum_append]
  show (restTo a (refPick a) a.length).sum + _ = _
  simp; omega
theorem settleN_sum : ∀ (n : Nat) (a : List Int) (m : Int), (settleN n a m).1.sum = a.sum
  | 0, a, m => rfl
  | n + 1, a, m => by
    simp only [settleN]
    split
    · rfl
    · rename_i h
      rw [settleN_sum n, next_sum h]
theorem settleN_ok : ∀ (n : Nat) (a : List Int) (m : Int), (∀ x ∈ a, 1 ≤ x ∧ x ≤ 4096) → (∀ x ∈ (settleN n a m).1, 1 ≤ x ∧ x ≤ 4096)
  | 0, a, m, h => h
  | n + 1, a, m, h => by
    simp only [settleN]
    split
    · exact h
    · rename_i hp
      exact settleN_ok n _ _ (next_ok h hp).1
theorem settleN_ge : ∀ (n : Nat) (a : List Int) (m : Int), (∀ x ∈ a, 1 ≤ x ∧ x ≤ 4096) → m ≤ (settleN n a m).2
  | 0, a, m, _ => Int.le_refl _
  | n + 1, a, m, h => by
    simp only [settleN]
    split
    · exact Int.le_refl _
    · rename_i hp
      obtain ⟨h1, _, h3, _⟩ := next_ok h hp
      have := settleN_ge n _ (m + sumAt a (refPick a)) h1
      omega
theorem settle_moved {a : List Int} (h : ∀ x ∈ a, 1 ≤ x ∧ x ≤ 4096) : 0 ≤ (settle a).2 ∧ ((settle a).2 = 0 ↔ refPick a = []) := by
  refine ⟨settleN_ge _ _ _ h, ?_⟩
  unfold settle
  cases ha : a.length with
  | zero =>
    have : a = [] := List.length_eq_zero_iff.1 ha
    subst this
    exact ⟨fun _ => refPick_e, fun _ => rfl⟩
  | succ n =>
    simp only [settleN]
    by_cases hp : refPick a = []
    · simp [hp]
    · rw [if_neg hp]
      obtain ⟨h1, _, h3, _⟩ := next_ok h hp
      have := settleN_ge n _ (0 + sumAt a (refPick a)) h1
      exact ⟨fun e => by omega, fun e => absurd e hp⟩
/-- how many of a class there are -/
def cnt (s : List Int) (j : Int) : Nat := s.countP fun x => decide (cls x = j)
theorem clsTo_cnt (s : List Int) (j : Int) : ∀ k, k ≤ s.length → (clsTo s j k).length = cnt (s.take k) j
  | 0, _ => by simp [clsTo, cnt]
  | k + 1, h => by
    have ih := clsTo_cnt s j k (by omega)
    have hg : s.getD k 0 = s[k] := by simp [show k < s.length by omega]
    simp only [clsTo]
    rw [List.take_succ_eq_append_getElem (by omega)]
    unfold cnt at ih ⊢
    rw [List.countP_append, ← ih, hg]
    by_cases hc : cls s[k] = j
    · rw [if_pos hc]; simp [hc]
    · rw [if_neg hc]; simp [hc]
theorem cls_le {x j : Int} (h : cls x = j) (hj : j < 4) : x ≤ 1024 := by
  unfold cls at h
  repeat' split at h
  all_goals omega
theorem cls_gt {x : Int} (h : cls x = 4) : 1025 ≤ x := by
  unfold cls at h
  repeat' split at h
  all_goals omega
theorem leastL_cls {a : List Int} {j i : Int} (h : i ∈ leastL a j) : cls (a.getD i.toNat 0) = j := by
  by_cases h4 : 4 ≤ (clsTo a j a.length).length
  · obtain ⟨_, e2, _⟩ := leastL_some h4
    exact (S_mem.1 (List.mem_of_mem_take (e2.mem_iff.1 h))).2.2
  · rw [leastL_none (by omega)] at h; simp at h
theorem pickC_nil {a : List Int} : ∀ (n c : Nat), pickC a n c = [] → ∀ j : Nat, c ≤ j → j < c + n → leastL a j = [] ∨ 4096 < sumAt a (leastL a j)
  | 0, c, _, j, h1, h2 => by omega
  | n + 1, c, h, j, h1, h2 => by
    simp only [pickC] at h
    split at h
    · rename_i hc; exact absurd h hc.1
    · rename_i hc
      by_cases hj : j = c
      · subst hj
        by_cases hl : leastL a j = []
        · exact .inl hl
        · exact .inr (by
            apply Classical.byContradiction
            intro hle
            exact hc ⟨hl, by omega⟩)
      · exact pickC_nil n (c + 1) h j (by omega) (by omega)
theorem sumAt_le {a : List Int} {m : Int} : ∀ {p : List Int}, (∀ i ∈ p, a.getD i.toNat 0 ≤ m) → sumAt a p ≤ m * p.length
  | [], _ => by simp [sumAt]
  | i :: p, h => by
    have ih := sumAt_le (p := p) fun j hj => h j (List.mem_cons_of_mem _ hj)
    have h1 := h i (by simp)
    simp only [sumAt, List.map_cons, List.sum_cons, List.length_cons] at ih ⊢
    rw [Int.natCast_add, Int.mul_add]
    omega
theorem cnt_few {s : List Int} (hp : refPick s = []) {j : Nat} (hj : j < 4) : cnt s j ≤ 3 := by
  apply Classical.byContradiction
  intro hge
  have h4 : 4 ≤ (clsTo s j s.length).length := by
    have := clsTo_cnt s j s.length (Nat.le_refl _)
    rw [List.take_length] at this
    omega
  obtain ⟨_, e2, e3⟩ := leastL_some h4
  obtain ⟨h1, _⟩ := leastL_spec e3
  rcases pickC_nil 5 0 hp j (Nat.zero_le _) (by omega) with h | h
  · exact e3 h
  · have := sumAt_le (a := s) (m := 1024) (p := leastL s j) fun i hi => cls_le (leastL_cls hi) (by omega)
    rw [h1] at this
    omega
theorem cnt_all (s : List Int) : s.length = cnt s 0 + cnt s 1 + cnt s 2 + cnt s 3 + cnt s 4 := by
  induction s with
  | nil => rfl
  | cons x s ih =>
    have hr := cls_range x
    unfold cnt at ih ⊢
    rw [List.countP_cons, List.countP_cons, List.countP_cons, List.countP_cons, List.countP_cons, List.length_cons, ih]
    rcases (by omega : cls x = 0 ∨ cls x = 1 ∨ cls x = 2 ∨ cls x = 3 ∨ cls x = 4) with h | h | h | h | h <;> rw [h] <;> simp <;> omega
theorem cnt4_sum {s : List Int} (h : ∀ x ∈ s, 1 ≤ x) : 1025 * (cnt s 4 : Int) ≤ s.sum := by
  induction s with
  | nil => simp [cnt]
  | cons x s ih =>
    have ih := ih fun y hy => h y (List.mem_cons_of_mem _ hy)
    have h1 := h x (by simp)
    unfold cnt at ih ⊢
    rw [List.countP_cons, List.sum_cons]
    by_cases hc : cls x = 4
    · have := cls_gt hc
      rw [if_pos (by simpa using hc)]; omega
    · rw [if_neg (by simpa using hc)]; omega
theorem len_few {s : List Int} (hp : refPick s = []) (h : ∀ x ∈ s, 1 ≤ x) : (s.length : Int) ≤ 12 + s.sum / 1025 := by
  have h0 := cnt_few hp (j := 0) (by omega)
  have h1 := cnt_few hp (j := 1) (by omega)
  have h2 := cnt_few hp (j := 2) (by omega)
  have h3 := cnt_few hp (j := 3) (by omega)
  have h4 := cnt4_sum h
  have ha := cnt_all s
  have e0 : cnt s ((0 : Nat) : Int) = cnt s 0 := rfl
  have e1 : cnt s ((1 : Nat) : Int) = cnt s 1 := rfl
  have e2 : cnt s ((2 : Nat) : Int) = cnt s 2 := rfl
  have e3 : cnt s ((3 : Nat) : Int) = cnt s 3 := rfl
  omega
theorem refPick_cls {a : List Int} (h : refPick a ≠ []) : ∃ j, ∀ i ∈ refPick a, cls (a.getD i.toNat 0) = j := by
  rcases pickC_mem a 5 0 with h1 | ⟨j, _, _, h2, _, _⟩
  · exact absurd h1 h
  · have h2' : refPick a = leastL a j := h2
    exact ⟨j, fun i hi => leastL_cls (by rw [← h2']; exact hi)⟩
end Go.Aev.M33
end
/- M33Law2Defs -/
section
namespace Go.Aev.M33
set_option maxRecDepth 1000000
set_option linter.unusedVariables false
/-- the laws' table; the class of the count looked at is j -/
def tabK (j : Int) (s : List Int) (m : Int) (g : FuncId) (args : List V) (rows : Aev.Rows) : Option (List Prop × V) :=
  match g, args with
  | 8, [.d (.int .i64 n)] => some ([n ≤ 4096, cls n = j], I j)
  | _, _ => tabL .nil s m g args rows
noncomputable def cK (j : Int) : SCfg := mk (fun _ => true) (tabK j [] 0)
theorem cK_ok (san : San) (j : Int) : COK (cK j).cfg := mk_ok (fun g args rows ps v h hp => by
  have h : tabK j [] 0 g args rows = some (ps, v) := h
  unfold tabK at h
  split at h
  · cases h
    obtain ⟨h1, h2, _⟩ := hp
    rw [← h2]
    exact (class_rcs h1).of_lists (.cons (.data _) .nil)
  · exact tabL_ok san h hp)
/-- the four places -/
def pk4 (p0 p1 p2 p3 : Int) : Nat → D
  | 0 => .int .i64 p0
  | 1 => .int .i64 p1
  | 2 => .int .i64 p2
  | _ => .int .i64 p3
noncomputable def td4a : List AItem := (nextOf (sTo (cL .nil [] 0) (gds [(16,false)]) (atLoop 2) 300 (start (cL .nil [] 0) 4 [L [0]] []))).fr.todo
/-- law 2 at its first loop -/
noncomputable def H4a (a : List Int) (tot k : Int) : AS := hd 4 td4a 185 [(0, L a), (3, I tot), (4, I k)] []
noncomputable def td4b : List AItem := (nextOf (sTo (cL .nil [] 0) (gds [(21,false)]) (atLoop 2) 300 (H4a [0] 0 0))).fr.todo
/-- law 2 at its second loop: p is what Pick says -/
noncomputable def H4b (a : List Int) (tot : Int) (p : V) (i : Int) : AS := hd 4 td4b 185 [(0, L a), (3, I tot), (5, p), (6, I i)] []
def h4b (a q : List Int) (b : Bool) : Hint := gds [(35,true),(43,false),(52,false),(55,b),(68,false),(85,false)] [(38, el q), (44, el q), (56, el q), (60, el q), (70, el q), (78, el q), (69, el a), (77, el a)]
end Go.Aev.M33
end
/- M33Law2S1 -/
section
namespace Go.Aev.M33
set_option maxRecDepth 1000000
set_option linter.unusedSimpArgs false
set_option linter.unusedVariables false
theorem law2_go (san : San) {a : List Int} {Q : V → Aev.Rows → Prop} (h0 : okC a = true) (hb : a.length ≤ 4611686018427387904) (h : Ends c0 0 (H4a a 0 0) Q) : Ends c0 0 (start c0 4 [L a] []) Q :=
  Ends.cfg rfl (Ends.turn (c := (cL .nil [] 0)) (cL_ok san _ _ _) (gds [(16,false)]) (atLoop 2) 300 [] [0, 3, 4] (ps := [isInts (ints a), List.length (ints a) ≤ nat_lit 4611686018427387904, (!okC (List.map unI (ints a))) = false]) (by kernel_rfl) (by
    (try simp only [AllP, Int.toNat_natCast, ints_len, decide_eq_true_eq, decide_eq_false_iff_not, beq_eq_false_iff_ne, beq_iff_eq, bne_iff_ne, bne_eq_false_iff_eq, Bool.not_eq_true', Bool.not_eq_false', Int.not_lt, Int.not_le, gt_iff_lt, ge_iff_le, ne_eq, and_true, true_and, unI_ints, Nat.zero_add, List.length_cons, List.length_nil, Nat.sub_zero, Int.zero_add, List.nil_append, List.drop_zero, ints_all, Int.add_zero, Int.natCast_zero, Int.toNat_zero])
    all_goals (repeat' (first | with_reducible assumption | with_reducible rfl | omega | with_reducible exact ints_get (by omega) | with_reducible apply And.intro | unfold inInt | with_reducible exact isInts_ints _ | exact rfl | exact ints_ne (by assumption) | (simp; done)))) (Ends.cfg rfl h))
theorem law2_bad (san : San) {a : List Int} {Q : V → Aev.Rows → Prop} (h0 : okC a = false) (hb : a.length ≤ 4611686018427387904) (h : ∀ rows, Q (B true) rows) : Ends c0 0 (start c0 4 [L a] []) Q :=
  Ends.cfg rfl (Ends.finR (c := (cL .nil [] 0)) (cL_ok san _ _ _) (gds [(16,true)]) 300 (ps := [isInts (ints a), List.length (ints a) ≤ nat_lit 4611686018427387904, (!okC (List.map unI (ints a))) = true]) (v := B true) (by kernel_rfl) (by
    (try simp only [AllP, Int.toNat_natCast, ints_len, decide_eq_true_eq, decide_eq_false_iff_not, beq_eq_false_iff_ne, beq_iff_eq, bne_iff_ne, bne_eq_false_iff_eq, Bool.not_eq_true', Bool.not_eq_false', Int.not_lt, Int.not_le, gt_iff_lt, ge_iff_le, ne_eq, and_true, true_and, unI_ints, Nat.zero_add, List.length_cons, List.length_nil, Nat.sub_zero, Int.zero_add, List.nil_append, List.drop_zero, ints_all, Int.add_zero, Int.natCast_zero, Int.toNat_zero])
    all_goals (repeat' (first | with_reducible assumption | with_reducible rfl | omega | with_reducible exact ints_get (by omega) | with_reducible apply And.intro | unfold inInt | with_reducible exact isInts_ints _ | exact rfl | exact ints_ne (by assumption) | (simp; done)))) h)
theorem law2_sum (san : San) {a : List Int} {tot k : Int} {Q : V → Aev.Rows → Prop} (h0 : 0 ≤ k) (h1 : k < (a.length : Int)) (hb : a.length ≤ 80) (hs : inInt (tot + a.getD k.toNat 0)) (h : Ends c0 0 (H4a a (tot + a.getD k.toNat 0) (k + 1)) Q) : Ends c0 0 (H4a a tot k) Q :=
  Ends.cfg rfl (Ends.turn (c := (cL .nil [] 0)) (cL_ok san _ _ _) (gds [(21,true)] [(25, el a)]) (atLoop 2) 300 [] [0, 3, 4] (ps := [decide (k < (↑(List.length (ints a)) : Int)) = true, (0 : Int) ≤ k ∧ k < (↑(List.length (ints a)) : Int), (ints a)[Int.toNat k]? = some (D.int IntKind.i64 (List.getD a (Int.toNat k) (0 : Int))), nat_lit 1 = nat_lit 1, inInt (tot + List.getD a (Int.toNat k) (0 : Int)), inInt (k + (1 : Int))]) (by kernel_rfl) (by
    (try simp only [AllP, Int.toNat_natCast, ints_len, decide_eq_true_eq, decide_eq_false_iff_not, beq_eq_false_iff_ne, beq_iff_eq, bne_iff_ne, bne_eq_false_iff_eq, Bool.not_eq_true', Bool.not_eq_false', Int.not_lt, Int.not_le, gt_iff_lt, ge_iff_le, ne_eq, and_true, true_and, unI_ints, Nat.zero_add, List.length_cons, List.length_nil, Nat.sub_zero, Int.zero_add, List.nil_append, List.drop_zero, ints_all, Int.add_zero, Int.natCast_zero, Int.toNat_zero])
    all_goals (repeat' (first | with_reducible assumption | with_reducible rfl | omega | with_reducible exact ints_get (by omega) | with_reducible apply And.intro | unfold inInt | with_reducible exact isInts_ints _ | exact rfl | exact ints_ne (by assumption) | (simp; done)))) (Ends.cfg rfl h))
theorem law2_b_nil (san : San) {a : List Int} {tot k : Int} {Q : V → Aev.Rows → Prop} (h1 : (a.length : Int) ≤ k) (hb : a.length ≤ 80) (ha : ∀ x ∈ a, 1 ≤ x ∧ x ≤ 4096) (hr : vOf (refPick a) = .nil) (h : Ends c0 0 (H4b a tot .nil 0) Q) : Ends c0 0 (H4a a tot k) Q :=
  Ends.cfg rfl (Ends.turn (c := (cL .nil [] 0)) (cL_ok san _ _ _) (gds [(21,false)]) (atLoop 2) 300 [] [0, 3, 5, 6] (ps := [decide (k < (↑(List.length (ints a)) : Int)) = false, isInts (ints a), List.length (ints a) ≤ nat_lit 1073741824, ∀ (x : Int), x ∈ List.map unI (ints a) → (1 : Int) ≤ x ∧ x ≤ (4096 : Int), vOf (refPick (List.map unI (ints a))) = V.nil]) (by kernel_rfl) (by
    (try simp only [AllP, Int.toNat_natCast, ints_len, decide_eq_true_eq, decide_eq_false_iff_not, beq_eq_false_iff_ne, beq_iff_eq, bne_iff_ne, bne_eq_false_iff_eq, Bool.not_eq_true', Bool.not_eq_false', Int.not_lt, Int.not_le, gt_iff_lt, ge_iff_le, ne_eq, and_true, true_and, unI_ints, Nat.zero_add, List.length_cons, List.length_nil, Nat.sub_zero, Int.zero_add, List.nil_append, List.drop_zero, ints_all, Int.add_zero, Int.natCast_zero, Int.toNat_zero])
    all_goals (repeat' (first | with_reducible assumption | with_reducible rfl | omega | with_reducible exact ints_get (by omega) | with_reducible apply And.intro | unfold inInt | with_reducible exact isInts_ints _ | exact rfl | exact ints_ne (by assumption) | (simp; done)))) (Ends.cfg rfl h))
theorem law2_b_some (san : San) {a q : List Int} {tot k : Int} {Q : V → Aev.Rows → Prop} (h1 : (a.length : Int) ≤ k) (hb : a.length ≤ 80) (ha : ∀ x ∈ a, 1 ≤ x ∧ x ≤ 4096) (hr : vOf (refPick a) = L q) (h : Ends c0 0 (H4b a tot (L q) 0) Q) : Ends c0 0 (H4a a tot k) Q :=
  Ends.cfg rfl (Ends.turn (c := (cL (L q) [] 0)) (cL_ok san _ _ _) (gds [(21,false)]) (atLoop 2) 300 [] [0, 3, 5, 6] (ps := [decide (k < (↑(List.length (ints a)) : Int)) = false, isInts (ints a), List.length (ints a) ≤ nat_lit 1073741824, ∀ (x : Int), x ∈ List.map unI (ints a) → (1 : Int) ≤ x ∧ x ≤ (4096 : Int), vOf (refPick (List.map unI (ints a))) = L q]) (by kernel_rfl) (by
    (try simp only [AllP, Int.toNat_natCast, ints_len, decide_eq_true_eq, decide_eq_false_iff_not, beq_eq_false_iff_ne, beq_iff_eq, bne_iff_ne, bne_eq_false_iff_eq, Bool.not_eq_true', Bool.not_eq_false', Int.not_lt, Int.not_le, gt_iff_lt, ge_iff_le, ne_eq, and_true, true_and, unI_ints, Nat.zero_add, List.length_cons, List.length_nil, Nat.sub_zero, Int.zero_add, List.nil_append, List.drop_zero, ints_all, Int.add_zero, Int.natCast_zero, Int.toNat_zero])
    all_goals (repeat' (first | with_reducible assumption | with_reducible rfl | omega | with_reducible exact ints_get (by omega) | with_reducible apply And.intro | unfold inInt | with_reducible exact isInts_ints _ | exact rfl | exact ints_ne (by assumption) | (simp; done)))) (Ends.cfg rfl h))
theorem law2_p0 (san : San) {a q : List Int} {tot i : Int} {Q : V → Aev.Rows → Prop} (hi0 : 0 ≤ i) (hi1 : i < (q.length : Int)) (hb : q.length ≤ 80) (ha : a.length ≤ 80) (hq : ∀ k : Nat, k < q.length → 0 ≤ q.getD k 0 ∧ q.getD k 0 < (a.length : Int)) (hq1 : 0 ≤ q.getD i.toNat 0 ∧ q.getD i.toNat 0 < (a.length : Int)) (hq0 : 0 ≤ q.getD 0 0 ∧ q.getD 0 0 < (a.length : Int)) (hx : a.getD (q.getD i.toNat 0).toNat 0 ≤ 4096) (hx0 : a.getD (q.getD 0 0).toNat 0 ≤ 4096) (hc : cls (a.getD (q.getD i.toNat 0).toNat 0) = cls (a.getD (q.getD 0 0).toNat 0)) (hz : i ≤ 0) (h : Ends c0 0 (H4b a tot (L q) (i + 1)) Q) : Ends c0 0 (H4b a tot (L q) i) Q :=
  Ends.cfg rfl (Ends.turn (c := (cL .nil [] 0)) (cL_ok san _ _ _) (h4b a q false) (atLoop 2) 300 [] [0, 3, 5, 6] (ps := [decide (i < (↑(List.length (ints q)) : Int)) = true, (0 : Int) ≤ i ∧ i < (↑(List.length (ints q)) : Int), (ints q)[Int.toNat i]? = some (D.int IntKind.i64 (List.getD q (Int.toNat i) (0 : Int))), nat_lit 1 = nat_lit 1, decide (List.getD q (Int.toNat i) (0 : Int) < (0 : Int)) = false, decide (List.getD q (Int.toNat i) (0 : Int) < (0 : Int)) = false, decide (List.getD q (Int.toNat i) (0 : Int) < (0 : Int)) = false, (0 : Int) ≤ i ∧ i < (↑(List.length (ints q)) : Int), (ints q)[Int.toNat i]? = some (D.int IntKind.i64 (List.getD q (Int.toNat i) (0 : Int))), nat_lit 1 = nat_lit 1, decide (List.getD q (Int.toNat i) (0 : Int) < (0 : Int)) = false, decide (List.getD q (Int.toNat i) (0 : Int) < (0 : Int)) = false, decide (List.getD q (Int.toNat i) (0 : Int) < (0 : Int)) = false, decide (List.getD q (Int.toNat i) (0 : Int) < (0 : Int)) = false, decide (List.getD q (Int.toNat i) (0 : Int) < (0 : Int)) = false, decide (List.getD q (Int.toNat i) (0 : Int) ≥ (↑(List.length (ints a)) : Int)) = false, decide (List.getD q (Int.toNat i) (0 : Int) ≥ (↑(List.length (ints a)) : Int)) = false, decide (List.getD q (Int.toNat i) (0 : Int) ≥ (↑(List.length (ints a)) : Int)) = false, decide (i > (0 : Int)) = false, decide (i > (0 : Int)) = false, decide (i > (0 : Int)) = false, decide (i > (0 : Int)) = false, decide (i > (0 : Int)) = false, decide (i > (0 : Int)) = false, decide (i > (0 : Int)) = false, decide (i > (0 : Int)) = false, decide (i > (0 : Int)) = false, decide (i > (0 : Int)) = false, decide (List.getD q (Int.toNat i) (0 : Int) ≥ (↑(List.length (ints a)) : Int)) = false, decide (i > (0 : Int)) = false, decide (List.getD q (Int.toNat i) (0 : Int) ≥ (↑(List.length (ints a)) : Int)) = false, false = false, false = false, false = false, false = false, (0 : Int) ≤ i ∧ i < (↑(List.length (ints q)) : Int), (ints q)[Int.toNat i]? = some (D.int IntKind.i64 (List.getD q (Int.toNat i) (0 : Int))), nat_lit 1 = nat_lit 1, false = false, false = false, (0 : Int) ≤ List.getD q (Int.toNat i) (0 : Int) ∧ List.getD q (Int.toNat i) (0 : Int) < (↑(List.length (ints a)) : Int), (ints a)[Int.toNat (List.getD q (Int.toNat i) (0 : Int))]? =   some (D.int IntKind.i64 (List.getD a (Int.toNat (List.getD q (Int.toNat i) (0 : Int))) (0 : Int))), nat_lit 1 = nat_lit 1, false = false, false = false, List.getD a (Int.toNat (List.getD q (Int.toNat i) (0 : Int))) (0 : Int) ≤ (4096 : Int), false = false, false = false, false = false, (0 : Int) ≤ (0 : Int) ∧ (0 : Int) < (↑(List.length (ints q)) : Int), (ints q)[nat_lit 0]? = some (D.int IntKind.i64 (List.getD q (nat_lit 0) (0 : Int))), nat_lit 1 = nat_lit 1, false = false, false = false, (0 : Int) ≤ List.getD q (nat_lit 0) (0 : Int) ∧ List.getD q (nat_lit 0) (0 : Int) < (↑(List.length (ints a)) : Int), (ints a)[Int.toNat (List.getD q (nat_lit 0) (0 : Int))]? =   some (D.int IntKind.i64 (List.getD a (Int.toNat (List.getD q (nat_lit 0) (0 : Int))) (0 : Int))), nat_lit 1 = nat_lit 1, false = false, false = false, List.getD a (Int.toNat (List.getD q (nat_lit 0) (0 : Int))) (0 : Int) ≤ (4096 : Int), false = false, false = false, (cls (List.getD a (Int.toNat (List.getD q (Int.toNat i) (0 : Int))) (0 : Int)) !=     cls (List.getD a (Int.toNat (List.getD q (nat_lit 0) (0 : Int))) (0 : Int))) =   false, inInt (i + (1 : Int))]) (by kernel_rfl) (by
    (try simp only [AllP, Int.toNat_natCast, ints_len, decide_eq_true_eq, decide_eq_false_iff_not, beq_eq_false_iff_ne, beq_iff_eq, bne_iff_ne, bne_eq_false_iff_eq, Bool.not_eq_true', Bool.not_eq_false', Int.not_lt, Int.not_le, gt_iff_lt, ge_iff_le, ne_eq, and_true, true_and, unI_ints, Nat.zero_add, List.length_cons, List.length_nil, Nat.sub_zero, Int.zero_add, List.nil_append, List.drop_zero, ints_all, Int.add_zero, Int.natCast_zero, Int.toNat_zero])
    all_goals (repeat' (first | with_reducible assumption | with_reducible rfl | omega | with_reducible exact ints_get (by omega) | with_reducible apply And.intro | unfold inInt | with_reducible exact isInts_ints _ | exact rfl | exact ints_ne (by assumption) | (simp; done)))) (Ends.cfg rfl h))
theorem law2_p1 (san : San) {a q : List Int} {tot i : Int} {Q : V → Aev.Rows → Prop} (hi0 : 0 ≤ i) (hi1 : i < (q.length : Int)) (hb : q.length ≤ 80) (ha : a.length ≤ 80) (hq : ∀ k : Nat, k < q.length → 0 ≤ q.getD k 0 ∧ q.getD k 0 < (a.length : Int)) (hq1 : 0 ≤ q.getD i.toNat 0 ∧ q.getD i.toNat 0 < (a.length : Int)) (hq0 : 0 ≤ q.getD 0 0 ∧ q.getD 0 0 < (a.length : Int)) (hx : a.getD (q.getD i.toNat 0).toNat 0 ≤ 4096) (hx0 : a.getD (q.getD 0 0).toNat 0 ≤ 4096) (hc : cls (a.getD (q.getD i.toNat 0).toNat 0) = cls (a.getD (q.getD 0 0).toNat 0)) (hz : 0 < i) (hlt : q.getD (i - 1).toNat 0 < q.getD i.toNat 0) (h : Ends c0 0 (H4b a tot (L q) (i + 1)) Q) : Ends c0 0 (H4b a tot (L q) i) Q :=
  Ends.cfg rfl (Ends.turn (c := (cL .nil [] 0)) (cL_ok san _ _ _) (h4b a q true) (atLoop 2) 300 [] [0, 3, 5, 6] (ps := [decide (i < (↑(List.length (ints q)) : Int)) = true, (0 : Int) ≤ i ∧ i < (↑(List.length (ints q)) : Int), (ints q)[Int.toNat i]? = some (D.int IntKind.i64 (List.getD q (Int.toNat i) (0 : Int))), nat_lit 1 = nat_lit 1, decide (List.getD q (Int.toNat i) (0 : Int) < (0 : Int)) = false, decide (List.getD q (Int.toNat i) (0 : Int) < (0 : Int)) = false, decide (List.getD q (Int.toNat i) (0 : Int) < (0 : Int)) = false, (0 : Int) ≤ i ∧ i < (↑(List.length (ints q)) : Int), (ints q)[Int.toNat i]? = some (D.int IntKind.i64 (List.getD q (Int.toNat i) (0 : Int))), nat_lit 1 = nat_lit 1, decide (List.getD q (Int.toNat i) (0 : Int) < (0 : Int)) = false, decide (List.getD q (Int.toNat i) (0 : Int) < (0 : Int)) = false, decide (List.getD q (Int.toNat i) (0 : Int) < (0 : Int)) = false, decide (List.getD q (Int.toNat i) (0 : Int) < (0 : Int)) = false, decide (List.getD q (Int.toNat i) (0 : Int) < (0 : Int)) = false, decide (List.getD q (Int.toNat i) (0 : Int) ≥ (↑(List.length (ints a)) : Int)) = false, decide (List.getD q (Int.toNat i) (0 : Int) ≥ (↑(List.length (ints a)) : Int)) = false, decide (List.getD q (Int.toNat i) (0 : Int) ≥ (↑(List.length (ints a)) : Int)) = false, decide (i > (0 : Int)) = true, decide (i > (0 : Int)) = true, decide (i > (0 : Int)) = true, (0 : Int) ≤ i ∧ i < (↑(List.length (ints q)) : Int), (ints q)[Int.toNat i]? = some (D.int IntKind.i64 (List.getD q (Int.toNat i) (0 : Int))), nat_lit 1 = nat_lit 1, decide (i > (0 : Int)) = true, decide (i > (0 : Int)) = true, decide (i > (0 : Int)) = true, decide (i > (0 : Int)) = true, inInt (i - (1 : Int)), decide (i > (0 : Int)) = true, (0 : Int) ≤ i - (1 : Int) ∧ i - (1 : Int) < (↑(List.length (ints q)) : Int), (ints q)[Int.toNat (i - (1 : Int))]? = some (D.int IntKind.i64 (List.getD q (Int.toNat (i - (1 : Int))) (0 : Int))), nat_lit 1 = nat_lit 1, decide (i > (0 : Int)) = true, decide (i > (0 : Int)) = true, decide (List.getD q (Int.toNat i) (0 : Int) ≥ (↑(List.length (ints a)) : Int)) = false, decide (i > (0 : Int)) = true, decide (List.getD q (Int.toNat i) (0 : Int) ≥ (↑(List.length (ints a)) : Int)) = false, decide (List.getD q (Int.toNat i) (0 : Int) ≤ List.getD q (Int.toNat (i - (1 : Int))) (0 : Int)) = false, decide (List.getD q (Int.toNat i) (0 : Int) ≤ List.getD q (Int.toNat (i - (1 : Int))) (0 : Int)) = false, decide (List.getD q (Int.toNat i) (0 : Int) ≤ List.getD q (Int.toNat (i - (1 : Int))) (0 : Int)) = false, decide (List.getD q (Int.toNat i) (0 : Int) ≤ List.getD q (Int.toNat (i - (1 : Int))) (0 : Int)) = false, (0 : Int) ≤ i ∧ i < (↑(List.length (ints q)) : Int), (ints q)[Int.toNat i]? = some (D.int IntKind.i64 (List.getD q (Int.toNat i) (0 : Int))), nat_lit 1 = nat_lit 1, decide (List.getD q (Int.toNat i) (0 : Int) ≤ List.getD q (Int.toNat (i - (1 : Int))) (0 : Int)) = false, decide (List.getD q (Int.toNat i) (0 : Int) ≤ List.getD q (Int.toNat (i - (1 : Int))) (0 : Int)) = false, (0 : Int) ≤ List.getD q (Int.toNat i) (0 : Int) ∧ List.getD q (Int.toNat i) (0 : Int) < (↑(List.length (ints a)) : Int), (ints a)[Int.toNat (List.getD q (Int.toNat i) (0 : Int))]? =   some (D.int IntKind.i64 (List.getD a (Int.toNat (List.getD q (Int.toNat i) (0 : Int))) (0 : Int))), nat_lit 1 = nat_lit 1, decide (List.getD q (Int.toNat i) (0 : Int) ≤ List.getD q (Int.toNat (i - (1 : Int))) (0 : Int)) = false, decide (List.getD q (Int.toNat i) (0 : Int) ≤ List.getD q (Int.toNat (i - (1 : Int))) (0 : Int)) = false, List.getD a (Int.toNat (List.getD q (Int.toNat i) (0 : Int))) (0 : Int) ≤ (4096 : Int), decide (List.getD q (Int.toNat i) (0 : Int) ≤ List.getD q (Int.toNat (i - (1 : Int))) (0 : Int)) = false, decide (List.getD q (Int.toNat i) (0 : Int) ≤ List.getD q (Int.toNat (i - (1 : Int))) (0 : Int)) = false, decide (List.getD q (Int.toNat i) (0 : Int) ≤ List.getD q (Int.toNat (i - (1 : Int))) (0 : Int)) = false, (0 : Int) ≤ (0 : Int) ∧ (0 : Int) < (↑(List.length (ints q)) : Int), (ints q)[nat_lit 0]? = some (D.int IntKind.i64 (List.getD q (nat_lit 0) (0 : Int))), nat_lit 1 = nat_lit 1, decide (List.getD q (Int.toNat i) (0 : Int) ≤ List.getD q (Int.toNat (i - (1 : Int))) (0 : Int)) = false, decide (List.getD q (Int.toNat i) (0 : Int) ≤ List.getD q (Int.toNat (i - (1 : Int))) (0 : Int)) = false, (0 : Int) ≤ List.getD q (nat_lit 0) (0 : Int) ∧ List.getD q (nat_lit 0) (0 : Int) < (↑(List.length (ints a)) : Int), (ints a)[Int.toNat (List.getD q (nat_lit 0) (0 : Int))]? =   some (D.int IntKind.i64 (List.getD a (Int.toNat (List.getD q (nat_lit 0) (0 : Int))) (0 : Int))), nat_lit 1 = nat_lit 1, decide (List.getD q (Int.toNat i) (0 : Int) ≤ List.getD q (Int.toNat (i - (1 : Int))) (0 : Int)) = false, decide (List.getD q (Int.toNat i) (0 : Int) ≤ List.getD q (Int.toNat (i - (1 : Int))) (0 : Int)) = false, List.getD a (Int.toNat (List.getD q (nat_lit 0) (0 : Int))) (0 : Int) ≤ (4096 : Int), decide (List.getD q (Int.toNat i) (0 : Int) ≤ List.getD q (Int.toNat (i - (1 : Int))) (0 : Int)) = false, decide (List.getD q (Int.toNat i) (0 : Int) ≤ List.getD q (Int.toNat (i - (1 : Int))) (0 : Int)) = false, (cls (List.getD a (Int.toNat (List.getD q (Int.toNat i) (0 : Int))) (0 : Int)) !=     cls (List.getD a (Int.toNat (List.getD q (nat_lit 0) (0 : Int))) (0 : Int))) =   false, inInt (i + (1 : Int))]) (by kernel_rfl) (by
    (try simp only [AllP, Int.toNat_natCast, ints_len, decide_eq_true_eq, decide_eq_false_iff_not, beq_eq_false_iff_ne, beq_iff_eq, bne_iff_ne, bne_eq_false_iff_eq, Bool.not_eq_true', Bool.not_eq_false', Int.not_lt, Int.not_le, gt_iff_lt, ge_iff_le, ne_eq, and_true, true_and, unI_ints, Nat.zero_add, List.length_cons, List.length_nil, Nat.sub_zero, Int.zero_add, List.nil_append, List.drop_zero, ints_all, Int.add_zero, Int.natCast_zero, Int.toNat_zero])
    all_goals (repeat' (first | with_reducible assumption | with_reducible rfl | omega | with_reducible exact ints_get (by omega) | with_reducible apply And.intro | unfold inInt | with_reducible exact isInts_ints _ | exact rfl | exact ints_ne (by assumption) | (simp; done)))) (Ends.cfg rfl h))
end Go.Aev.M33
end
/- M33Law2Defs2 -/
section
namespace Go.Aev.M33
set_option maxRecDepth 1000000
set_option linter.unusedVariables false
noncomputable def td4c : List AItem := (nextOf (sTo (cL .nil [] 0) (gds [(35,false)]) (atLoop 2) 300 (H4b [0] 0 .nil 0))).fr.todo
/-- law 2 at the loop over what Settle left: n0 .. n4 are the numbers of each class -/
noncomputable def H4c (a : List Int) (tot : Int) (p : V) (s : List Int) (m sum k n0 n1 n2 n3 n4 : Int) : AS :=
  hd 4 td4c 185 [(0, L a), (3, I tot), (5, p), (7, L s), (8, I m), (9, I sum), (10, .pt 0 0 0 0), (11, I k)] [.live (.box [I n0, I n1, I n2, I n3, I n4] false)]
def h4c (s : List Int) : Hint := gds [(108,true),(116,false),(122,false)] [(111, el s), (117, el s), (124, el s), (129, el s)]
end Go.Aev.M33
end
