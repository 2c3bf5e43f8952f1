/- Lemmas for the statements of this seat: an abstract machine that the model follows, and contracts of functions. Conditions: none. -/
import Derived.Test.YtmphkalnipcijaaGreatA16
set_option linter.unusedVariables false
set_option linter.unusedSimpArgs false
/- M33Sym2N -/
section
namespace Go.Aev.M33
set_option maxRecDepth 1000000
set_option linter.unusedSimpArgs false
set_option linter.unusedVariables false
theorem symN_C_ge {n : Nat} {xs : List Int} {a m b mid nn st r p : Int} {Q : V → Aev.Rows → Prop} (hn : n = xs.length) (h1 : st < r) (h2 : inInt (st + r)) (h3 : inInt (p - hf (st + r))) (p0 : 0 ≤ p - hf (st + r)) (p1 : p - hf (st + r) < xs.length)(q0 : 0 ≤ hf (st + r)) (q1 : hf (st + r) < xs.length) (hc : 0 ≤ cmpI (xs.getD (p - hf (st + r)).toNat 0) (xs.getD (hf (st + r)).toNat 0)) (h4 : inInt (hf (st + r) + 1)) (h : Ends c0 2 (HCs n xs TN a m b mid nn (hf (st + r) + 1) r p) Q) : Ends c0 2 (HCs n xs TN a m b mid nn st r p) Q :=
  Ends.cfg rfl (Ends.turn (c := cS) cS_ok (gdr [(151,true),(171,true)] [] [(0, el xs)]) (atLoop 2) 300 [0, 1] [0, 1, 2, 3, 4, 18, 19, 20, 21, 22] (ps := [decide (st < r) = true, inInt (st + r), inInt (p - IntKind.wrap IntKind.i64 (Int.fdiv (IntKind.wrap IntKind.u64 (st + r)) ((2 : Int) ^ nat_lit 1))), nat_lit 1 = nat_lit 1 ∧   (0 : Int) ≤ p - IntKind.wrap IntKind.i64 (Int.fdiv (IntKind.wrap IntKind.u64 (st + r)) ((2 : Int) ^ nat_lit 1)) ∧     p - IntKind.wrap IntKind.i64 (Int.fdiv (IntKind.wrap IntKind.u64 (st + r)) ((2 : Int) ^ nat_lit 1)) < (↑n : Int), nat_lit 1 = nat_lit 1 ∧   (ints         xs)[nat_lit 0 +         Int.toNat           (p - IntKind.wrap IntKind.i64 (Int.fdiv (IntKind.wrap IntKind.u64 (st + r)) ((2 : Int) ^ nat_lit 1)))]? =     some       (D.int IntKind.i64         (List.getD xs           (nat_lit 0 +             Int.toNat               (p - IntKind.wrap IntKind.i64 (Int.fdiv (IntKind.wrap IntKind.u64 (st + r)) ((2 : Int) ^ nat_lit 1))))           (0 : Int))), nat_lit 1 = nat_lit 1 ∧   (0 : Int) ≤ IntKind.wrap IntKind.i64 (Int.fdiv (IntKind.wrap IntKind.u64 (st + r)) ((2 : Int) ^ nat_lit 1)) ∧     IntKind.wrap IntKind.i64 (Int.fdiv (IntKind.wrap IntKind.u64 (st + r)) ((2 : Int) ^ nat_lit 1)) < (↑n : Int), nat_lit 1 = nat_lit 1 ∧   (ints         xs)[nat_lit 0 +         Int.toNat (IntKind.wrap IntKind.i64 (Int.fdiv (IntKind.wrap IntKind.u64 (st + r)) ((2 : Int) ^ nat_lit 1)))]? =     some       (D.int IntKind.i64         (List.getD xs           (nat_lit 0 +             Int.toNat (IntKind.wrap IntKind.i64 (Int.fdiv (IntKind.wrap IntKind.u64 (st + r)) ((2 : Int) ^ nat_lit 1))))           (0 : Int))), (!decide       (cmpI           (List.getD xs             (nat_lit 0 +               Int.toNat                 (p - IntKind.wrap IntKind.i64 (Int.fdiv (IntKind.wrap IntKind.u64 (st + r)) ((2 : Int) ^ nat_lit 1))))             (0 : Int))           (List.getD xs             (nat_lit 0 +               Int.toNat                 (IntKind.wrap IntKind.i64 (Int.fdiv (IntKind.wrap IntKind.u64 (st + r)) ((2 : Int) ^ nat_lit 1))))             (0 : Int)) <         (0 : Int))) =   true, inInt (IntKind.wrap IntKind.i64 (Int.fdiv (IntKind.wrap IntKind.u64 (st + r)) ((2 : Int) ^ nat_lit 1)) + (1 : Int))]) (by kernel_rfl) (by
    (try simp only [AllP, Int.toNat_natCast, ints_len, decide_eq_true_eq, decide_eq_false_iff_not, beq_eq_false_iff_ne, beq_iff_eq, bne_iff_ne, bne_eq_false_iff_eq, Bool.not_eq_true', Bool.not_eq_false', Int.not_lt, Int.not_le, gt_iff_lt, ge_iff_le, ne_eq, and_true, true_and, unI_ints, Nat.zero_add, List.length_set, Nat.le_refl, hf_raw])
    all_goals (repeat' (first | with_reducible assumption | with_reducible rfl | omega | with_reducible exact ints_get (by omega) | with_reducible apply And.intro | unfold inInt | with_reducible exact isInts_ints _))) (Ends.cfg rfl h))
theorem symN_C_lt {n : Nat} {xs : List Int} {a m b mid nn st r p : Int} {Q : V → Aev.Rows → Prop} (hn : n = xs.length) (h1 : st < r) (h2 : inInt (st + r)) (h3 : inInt (p - hf (st + r))) (p0 : 0 ≤ p - hf (st + r)) (p1 : p - hf (st + r) < xs.length)(q0 : 0 ≤ hf (st + r)) (q1 : hf (st + r) < xs.length) (hc : cmpI (xs.getD (p - hf (st + r)).toNat 0) (xs.getD (hf (st + r)).toNat 0) < 0) (h : Ends c0 2 (HCs n xs TN a m b mid nn st (hf (st + r)) p) Q) : Ends c0 2 (HCs n xs TN a m b mid nn st r p) Q :=
  Ends.cfg rfl (Ends.turn (c := cS) cS_ok (gdr [(151,true),(171,false)] [] [(0, el xs)]) (atLoop 2) 300 [0, 1] [0, 1, 2, 3, 4, 18, 19, 20, 21, 22] (ps := [decide (st < r) = true, inInt (st + r), inInt (p - IntKind.wrap IntKind.i64 (Int.fdiv (IntKind.wrap IntKind.u64 (st + r)) ((2 : Int) ^ nat_lit 1))), nat_lit 1 = nat_lit 1 ∧   (0 : Int) ≤ p - IntKind.wrap IntKind.i64 (Int.fdiv (IntKind.wrap IntKind.u64 (st + r)) ((2 : Int) ^ nat_lit 1)) ∧     p - IntKind.wrap IntKind.i64 (Int.fdiv (IntKind.wrap IntKind.u64 (st + r)) ((2 : Int) ^ nat_lit 1)) < (↑n : Int), nat_lit 1 = nat_lit 1 ∧   (ints         xs)[nat_lit 0 +         Int.toNat           (p - IntKind.wrap IntKind.i64 (Int.fdiv (IntKind.wrap IntKind.u64 (st + r)) ((2 : Int) ^ nat_lit 1)))]? =     some       (D.int IntKind.i64         (List.getD xs           (nat_lit 0 +             Int.toNat               (p - IntKind.wrap IntKind.i64 (Int.fdiv (IntKind.wrap IntKind.u64 (st + r)) ((2 : Int) ^ nat_lit 1))))           (0 : Int))), nat_lit 1 = nat_lit 1 ∧   (0 : Int) ≤ IntKind.wrap IntKind.i64 (Int.fdiv (IntKind.wrap IntKind.u64 (st + r)) ((2 : Int) ^ nat_lit 1)) ∧     IntKind.wrap IntKind.i64 (Int.fdiv (IntKind.wrap IntKind.u64 (st + r)) ((2 : Int) ^ nat_lit 1)) < (↑n : Int), nat_lit 1 = nat_lit 1 ∧   (ints         xs)[nat_lit 0 +         Int.toNat (IntKind.wrap IntKind.i64 (Int.fdiv (IntKind.wrap IntKind.u64 (st + r)) ((2 : Int) ^ nat_lit 1)))]? =     some       (D.int IntKind.i64         (List.getD xs           (nat_lit 0 +             Int.toNat (IntKind.wrap IntKind.i64 (Int.fdiv (IntKind.wrap IntKind.u64 (st + r)) ((2 : Int) ^ nat_lit 1))))           (0 : Int))), (!decide       (cmpI           (List.getD xs             (nat_lit 0 +               Int.toNat                 (p - IntKind.wrap IntKind.i64 (Int.fdiv (IntKind.wrap IntKind.u64 (st + r)) ((2 : Int) ^ nat_lit 1))))             (0 : Int))           (List.getD xs             (nat_lit 0 +               Int.toNat                 (IntKind.wrap IntKind.i64 (Int.fdiv (IntKind.wrap IntKind.u64 (st + r)) ((2 : Int) ^ nat_lit 1))))             (0 : Int)) <         (0 : Int))) =   false]) (by kernel_rfl) (by
    (try simp only [AllP, Int.toNat_natCast, ints_len, decide_eq_true_eq, decide_eq_false_iff_not, beq_eq_false_iff_ne, beq_iff_eq, bne_iff_ne, bne_eq_false_iff_eq, Bool.not_eq_true', Bool.not_eq_false', Int.not_lt, Int.not_le, gt_iff_lt, ge_iff_le, ne_eq, and_true, true_and, unI_ints, Nat.zero_add, List.length_set, Nat.le_refl, hf_raw])
    all_goals (repeat' (first | with_reducible assumption | with_reducible rfl | omega | with_reducible exact ints_get (by omega) | with_reducible apply And.intro | unfold inInt | with_reducible exact isInts_ints _))) (Ends.cfg rfl h))
theorem symN_C_done {n : Nat} {xs : List Int} {a m b mid nn st r p : Int} {Q : V → Aev.Rows → Prop} (h1 : r ≤ st) (h2 : inInt (nn - st)) (h : Ends c0 2 (HD1 n xs TN a m b mid st (nn - st)) Q) : Ends c0 2 (HCs n xs TN a m b mid nn st r p) Q :=
  Ends.cfg rfl (Ends.turn (c := cS) cS_ok (gds [(151,false)]) (atReg 39) 300 [0, 1] [0, 1, 2, 3, 4, 18, 20, 24] (ps := [decide (st < r) = false, inInt (nn - st)]) (by kernel_rfl) (by
    (try simp only [AllP, Int.toNat_natCast, ints_len, decide_eq_true_eq, decide_eq_false_iff_not, beq_eq_false_iff_ne, beq_iff_eq, bne_iff_ne, bne_eq_false_iff_eq, Bool.not_eq_true', Bool.not_eq_false', Int.not_lt, Int.not_le, gt_iff_lt, ge_iff_le, ne_eq, and_true, true_and, unI_ints, Nat.zero_add, List.length_set, Nat.le_refl, hf_raw])
    all_goals (repeat' (first | with_reducible assumption | with_reducible rfl | omega | with_reducible exact ints_get (by omega) | with_reducible apply And.intro | unfold inInt | with_reducible exact isInts_ints _))) (Ends.cfg rfl h))
theorem symN_D1_yes {xs : List Int} {a m b mid st en : Int} {P : List Int → Prop} {Q : V → Aev.Rows → Prop} (h1 : st < m) (h2 : m < en) (hd : SortDoes 161 2 [I st, I m, I en] TN (xs) (P)) (h : ∀ xs' : List Int, xs'.length = (xs).length → (P) xs' → Ends c0 2 (HD2 xs.length xs' TN a m b mid st en) Q) : Ends c0 2 (HD1 xs.length xs TN a m b mid st en) Q :=
  Ends.cfg rfl (Ends.to (c := cS) cS_ok (gds [(181,true),(185,true)]) (atOp 6 4) 300 (s' := (nextOf (sTo cS (gds [(181,true),(185,true)]) (atOp 6 4) 300 (HD1 xs.length xs TN a m b mid st en)))) (ps := [decide (st < m) = true, decide (st < m) = true, decide (st < m) = true, decide (st < m) = true, decide (m < en) = true]) (by kernel_rfl) (by
    (try simp only [AllP, Int.toNat_natCast, ints_len, decide_eq_true_eq, decide_eq_false_iff_not, beq_eq_false_iff_ne, beq_iff_eq, bne_iff_ne, bne_eq_false_iff_eq, Bool.not_eq_true', Bool.not_eq_false', Int.not_lt, Int.not_le, gt_iff_lt, ge_iff_le, ne_eq, and_true, true_and, unI_ints, Nat.zero_add, List.length_set, Nat.le_refl, hf_raw])
    all_goals (repeat' (first | with_reducible assumption | with_reducible rfl | omega | with_reducible exact ints_get (by omega) | with_reducible apply And.intro | unfold inInt | with_reducible exact isInts_ints _)))
    (Ends.callS (args := [I st, I m, I en]) (T := TN) (xs := xs) (rs := [0, 1]) cS_ok rfl (by kernel_rfl) hd (fun xs' => by kernel_rfl) fun xs' hl' hp' =>
    Ends.turn (c := cS) cS_ok (gds []) (atReg 41) 300 [0, 1] [0, 1, 2, 3, 4, 18, 20, 24] (ps := []) (by kernel_rfl) (by
    (try simp only [AllP, Int.toNat_natCast, ints_len, decide_eq_true_eq, decide_eq_false_iff_not, beq_eq_false_iff_ne, beq_iff_eq, bne_iff_ne, bne_eq_false_iff_eq, Bool.not_eq_true', Bool.not_eq_false', Int.not_lt, Int.not_le, gt_iff_lt, ge_iff_le, ne_eq, and_true, true_and, unI_ints, Nat.zero_add, List.length_set, Nat.le_refl, hf_raw])
    all_goals (repeat' (first | with_reducible assumption | with_reducible rfl | omega | with_reducible exact ints_get (by omega) | with_reducible apply And.intro | unfold inInt | with_reducible exact isInts_ints _))) (Ends.cfg rfl (h xs' hl' hp'))))
theorem symN_D1_no1 {xs : List Int} {a m b mid st en : Int} {Q : V → Aev.Rows → Prop} (h1 : m ≤ st) (h : Ends c0 2 (HD2 xs.length xs TN a m b mid st en) Q) : Ends c0 2 (HD1 xs.length xs TN a m b mid st en) Q :=
  Ends.cfg rfl (Ends.turn (c := cS) cS_ok (gds [(181,false)]) (atReg 41) 300 [0, 1] [0, 1, 2, 3, 4, 18, 20, 24] (ps := [decide (st < m) = false, decide (st < m) = false, decide (st < m) = false, decide (st < m) = false]) (by kernel_rfl) (by
    (try simp only [AllP, Int.toNat_natCast, ints_len, decide_eq_true_eq, decide_eq_false_iff_not, beq_eq_false_iff_ne, beq_iff_eq, bne_iff_ne, bne_eq_false_iff_eq, Bool.not_eq_true', Bool.not_eq_false', Int.not_lt, Int.not_le, gt_iff_lt, ge_iff_le, ne_eq, and_true, true_and, unI_ints, Nat.zero_add, List.length_set, Nat.le_refl, hf_raw])
    all_goals (repeat' (first | with_reducible assumption | with_reducible rfl | omega | with_reducible exact ints_get (by omega) | with_reducible apply And.intro | unfold inInt | with_reducible exact isInts_ints _))) (Ends.cfg rfl h))
theorem symN_D1_no2 {xs : List Int} {a m b mid st en : Int} {Q : V → Aev.Rows → Prop} (h1 : st < m) (h2 : en ≤ m) (h : Ends c0 2 (HD2 xs.length xs TN a m b mid st en) Q) : Ends c0 2 (HD1 xs.length xs TN a m b mid st en) Q :=
  Ends.cfg rfl (Ends.turn (c := cS) cS_ok (gds [(181,true),(185,false)]) (atReg 41) 300 [0, 1] [0, 1, 2, 3, 4, 18, 20, 24] (ps := [decide (st < m) = true, decide (st < m) = true, decide (st < m) = true, decide (st < m) = true, decide (m < en) = false]) (by kernel_rfl) (by
    (try simp only [AllP, Int.toNat_natCast, ints_len, decide_eq_true_eq, decide_eq_false_iff_not, beq_eq_false_iff_ne, beq_iff_eq, bne_iff_ne, bne_eq_false_iff_eq, Bool.not_eq_true', Bool.not_eq_false', Int.not_lt, Int.not_le, gt_iff_lt, ge_iff_le, ne_eq, and_true, true_and, unI_ints, Nat.zero_add, List.length_set, Nat.le_refl, hf_raw])
    all_goals (repeat' (first | with_reducible assumption | with_reducible rfl | omega | with_reducible exact ints_get (by omega) | with_reducible apply And.intro | unfold inInt | with_reducible exact isInts_ints _))) (Ends.cfg rfl h))
theorem symN_D2_yes {xs : List Int} {a m b mid st en : Int} {P : List Int → Prop} {Q : V → Aev.Rows → Prop} (h1 : a < st) (h2 : st < mid) (hd : SortDoes 114 2 [I a, I st, I mid] TN (xs) (P)) (h : ∀ xs' : List Int, xs'.length = (xs).length → (P) xs' → Ends c0 2 (HD3 xs.length xs' TN a m b mid st en) Q) : Ends c0 2 (HD2 xs.length xs TN a m b mid st en) Q :=
  Ends.cfg rfl (Ends.to (c := cS) cS_ok (gds [(195,true),(199,true)]) (atOp 6 4) 300 (s' := (nextOf (sTo cS (gds [(195,true),(199,true)]) (atOp 6 4) 300 (HD2 xs.length xs TN a m b mid st en)))) (ps := [decide (a < st) = true, decide (a < st) = true, decide (a < st) = true, decide (a < st) = true, decide (st < mid) = true]) (by kernel_rfl) (by
    (try simp only [AllP, Int.toNat_natCast, ints_len, decide_eq_true_eq, decide_eq_false_iff_not, beq_eq_false_iff_ne, beq_iff_eq, bne_iff_ne, bne_eq_false_iff_eq, Bool.not_eq_true', Bool.not_eq_false', Int.not_lt, Int.not_le, gt_iff_lt, ge_iff_le, ne_eq, and_true, true_and, unI_ints, Nat.zero_add, List.length_set, Nat.le_refl, hf_raw])
    all_goals (repeat' (first | with_reducible assumption | with_reducible rfl | omega | with_reducible exact ints_get (by omega) | with_reducible apply And.intro | unfold inInt | with_reducible exact isInts_ints _)))
    (Ends.callS (args := [I a, I st, I mid]) (T := TN) (xs := xs) (rs := [0, 1]) cS_ok rfl (by kernel_rfl) hd (fun xs' => by kernel_rfl) fun xs' hl' hp' =>
    Ends.turn (c := cS) cS_ok (gds []) (atReg 43) 300 [0, 1] [0, 1, 2, 3, 4, 18, 20, 24] (ps := []) (by kernel_rfl) (by
    (try simp only [AllP, Int.toNat_natCast, ints_len, decide_eq_true_eq, decide_eq_false_iff_not, beq_eq_false_iff_ne, beq_iff_eq, bne_iff_ne, bne_eq_false_iff_eq, Bool.not_eq_true', Bool.not_eq_false', Int.not_lt, Int.not_le, gt_iff_lt, ge_iff_le, ne_eq, and_true, true_and, unI_ints, Nat.zero_add, List.length_set, Nat.le_refl, hf_raw])
    all_goals (repeat' (first | with_reducible assumption | with_reducible rfl | omega | with_reducible exact ints_get (by omega) | with_reducible apply And.intro | unfold inInt | with_reducible exact isInts_ints _))) (Ends.cfg rfl (h xs' hl' hp'))))
theorem symN_D2_no1 {xs : List Int} {a m b mid st en : Int} {Q : V → Aev.Rows → Prop} (h1 : st ≤ a) (h : Ends c0 2 (HD3 xs.length xs TN a m b mid st en) Q) : Ends c0 2 (HD2 xs.length xs TN a m b mid st en) Q :=
  Ends.cfg rfl (Ends.turn (c := cS) cS_ok (gds [(195,false)]) (atReg 43) 300 [0, 1] [0, 1, 2, 3, 4, 18, 20, 24] (ps := [decide (a < st) = false, decide (a < st) = false, decide (a < st) = false, decide (a < st) = false]) (by kernel_rfl) (by
    (try simp only [AllP, Int.toNat_natCast, ints_len, decide_eq_true_eq, decide_eq_false_iff_not, beq_eq_false_iff_ne, beq_iff_eq, bne_iff_ne, bne_eq_false_iff_eq, Bool.not_eq_true', Bool.not_eq_false', Int.not_lt, Int.not_le, gt_iff_lt, ge_iff_le, ne_eq, and_true, true_and, unI_ints, Nat.zero_add, List.length_set, Nat.le_refl, hf_raw])
    all_goals (repeat' (first | with_reducible assumption | with_reducible rfl | omega | with_reducible exact ints_get (by omega) | with_reducible apply And.intro | unfold inInt | with_reducible exact isInts_ints _))) (Ends.cfg rfl h))
theorem symN_D2_no2 {xs : List Int} {a m b mid st en : Int} {Q : V → Aev.Rows → Prop} (h1 : a < st) (h2 : mid ≤ st) (h : Ends c0 2 (HD3 xs.length xs TN a m b mid st en) Q) : Ends c0 2 (HD2 xs.length xs TN a m b mid st en) Q :=
  Ends.cfg rfl (Ends.turn (c := cS) cS_ok (gds [(195,true),(199,false)]) (atReg 43) 300 [0, 1] [0, 1, 2, 3, 4, 18, 20, 24] (ps := [decide (a < st) = true, decide (a < st) = true, decide (a < st) = true, decide (a < st) = true, decide (st < mid) = false]) (by kernel_rfl) (by
    (try simp only [AllP, Int.toNat_natCast, ints_len, decide_eq_true_eq, decide_eq_false_iff_not, beq_eq_false_iff_ne, beq_iff_eq, bne_iff_ne, bne_eq_false_iff_eq, Bool.not_eq_true', Bool.not_eq_false', Int.not_lt, Int.not_le, gt_iff_lt, ge_iff_le, ne_eq, and_true, true_and, unI_ints, Nat.zero_add, List.length_set, Nat.le_refl, hf_raw])
    all_goals (repeat' (first | with_reducible assumption | with_reducible rfl | omega | with_reducible exact ints_get (by omega) | with_reducible apply And.intro | unfold inInt | with_reducible exact isInts_ints _))) (Ends.cfg rfl h))
theorem symN_D3_yes {xs : List Int} {a m b mid st en : Int} {P : List Int → Prop} {Q : V → Aev.Rows → Prop} (h1 : mid < en) (h2 : en < b) (hd : SortDoes 114 2 [I mid, I en, I b] TN (xs) (P)) (h : ∀ xs' : List Int, xs'.length = (xs).length → (P) xs' → Q (.tup []) (RW xs' :: TN)) : Ends c0 2 (HD3 xs.length xs TN a m b mid st en) Q :=
  Ends.cfg rfl (Ends.to (c := cS) cS_ok (gds [(209,true),(213,true)]) (atOp 6 4) 300 (s' := (nextOf (sTo cS (gds [(209,true),(213,true)]) (atOp 6 4) 300 (HD3 xs.length xs TN a m b mid st en)))) (ps := [decide (mid < en) = true, decide (mid < en) = true, decide (mid < en) = true, decide (mid < en) = true, decide (en < b) = true]) (by kernel_rfl) (by
    (try simp only [AllP, Int.toNat_natCast, ints_len, decide_eq_true_eq, decide_eq_false_iff_not, beq_eq_false_iff_ne, beq_iff_eq, bne_iff_ne, bne_eq_false_iff_eq, Bool.not_eq_true', Bool.not_eq_false', Int.not_lt, Int.not_le, gt_iff_lt, ge_iff_le, ne_eq, and_true, true_and, unI_ints, Nat.zero_add, List.length_set, Nat.le_refl, hf_raw])
    all_goals (repeat' (first | with_reducible assumption | with_reducible rfl | omega | with_reducible exact ints_get (by omega) | with_reducible apply And.intro | unfold inInt | with_reducible exact isInts_ints _)))
    (Ends.callS (args := [I mid, I en, I b]) (T := TN) (xs := xs) (rs := [0, 1]) cS_ok rfl (by kernel_rfl) hd (fun xs' => by kernel_rfl) fun xs' hl' hp' =>
    Ends.fin (c := cS) cS_ok (gds []) 300 (ps := []) (v := .tup []) (rows := RW xs' :: TN) (by kernel_rfl) (by
    (try simp only [AllP, Int.toNat_natCast, ints_len, decide_eq_true_eq, decide_eq_false_iff_not, beq_eq_false_iff_ne, beq_iff_eq, bne_iff_ne, bne_eq_false_iff_eq, Bool.not_eq_true', Bool.not_eq_false', Int.not_lt, Int.not_le, gt_iff_lt, ge_iff_le, ne_eq, and_true, true_and, unI_ints, Nat.zero_add, List.length_set, Nat.le_refl, hf_raw])
    all_goals (repeat' (first | with_reducible assumption | with_reducible rfl | omega | with_reducible exact ints_get (by omega) | with_reducible apply And.intro | unfold inInt | with_reducible exact isInts_ints _))) (h xs' hl' hp')))
theorem symN_D3_no1 {xs : List Int} {a m b mid st en : Int} {Q : V → Aev.Rows → Prop} (h1 : en ≤ mid) (h : Q (.tup []) (RW xs :: TN)) : Ends c0 2 (HD3 xs.length xs TN a m b mid st en) Q :=
  Ends.cfg rfl (Ends.fin (c := cS) cS_ok (gds [(209,false)]) 300 (ps := [decide (mid < en) = false, decide (mid < en) = false, decide (mid < en) = false, decide (mid < en) = false]) (by kernel_rfl) (by
    (try simp only [AllP, Int.toNat_natCast, ints_len, decide_eq_true_eq, decide_eq_false_iff_not, beq_eq_false_iff_ne, beq_iff_eq, bne_iff_ne, bne_eq_false_iff_eq, Bool.not_eq_true', Bool.not_eq_false', Int.not_lt, Int.not_le, gt_iff_lt, ge_iff_le, ne_eq, and_true, true_and, unI_ints, Nat.zero_add, List.length_set, Nat.le_refl, hf_raw])
    all_goals (repeat' (first | with_reducible assumption | with_reducible rfl | omega | with_reducible exact ints_get (by omega) | with_reducible apply And.intro | unfold inInt | with_reducible exact isInts_ints _))) h)
theorem symN_D3_no2 {xs : List Int} {a m b mid st en : Int} {Q : V → Aev.Rows → Prop} (h1 : mid < en) (h2 : b ≤ en) (h : Q (.tup []) (RW xs :: TN)) : Ends c0 2 (HD3 xs.length xs TN a m b mid st en) Q :=
  Ends.cfg rfl (Ends.fin (c := cS) cS_ok (gds [(209,true),(213,false)]) 300 (ps := [decide (mid < en) = true, decide (mid < en) = true, decide (mid < en) = true, decide (mid < en) = true, decide (en < b) = false]) (by kernel_rfl) (by
    (try simp only [AllP, Int.toNat_natCast, ints_len, decide_eq_true_eq, decide_eq_false_iff_not, beq_eq_false_iff_ne, beq_iff_eq, bne_iff_ne, bne_eq_false_iff_eq, Bool.not_eq_true', Bool.not_eq_false', Int.not_lt, Int.not_le, gt_iff_lt, ge_iff_le, ne_eq, and_true, true_and, unI_ints, Nat.zero_add, List.length_set, Nat.le_refl, hf_raw])
    all_goals (repeat' (first | with_reducible assumption | with_reducible rfl | omega | with_reducible exact ints_get (by omega) | with_reducible apply And.intro | unfold inInt | with_reducible exact isInts_ints _))) h)
end Go.Aev.M33
end
/- M33Sym1K -/
section
namespace Go.Aev.M33
set_option maxRecDepth 1000000
set_option linter.unusedSimpArgs false
set_option linter.unusedVariables false
theorem symK_A {cn : List Int} {n : Nat} {xs : List Int} {a m b : Int} {Q : V → Aev.Rows → Prop} (h1 : inInt (m - a)) (h2 : m - a = 1) (h : Ends c0 3 (HA n xs (TK cn) a m b m b) Q) : Ends c0 3 (s114 n xs (TK cn) a m b) Q :=
  Ends.cfg rfl (Ends.turn (c := cS) cS_ok (gds [(28,true)]) (atLoop 3) 300 [0, 1, 2] [0, 1, 2, 3, 4, 10, 11] (ps := [inInt (m - a), (m - a == (1 : Int)) = true]) (by kernel_rfl) (by
    (try simp only [AllP, Int.toNat_natCast, ints_len, decide_eq_true_eq, decide_eq_false_iff_not, beq_eq_false_iff_ne, beq_iff_eq, bne_iff_ne, bne_eq_false_iff_eq, Bool.not_eq_true', Bool.not_eq_false', Int.not_lt, Int.not_le, gt_iff_lt, ge_iff_le, ne_eq, and_true, true_and, unI_ints, Nat.zero_add, List.length_set, Nat.le_refl, hf_raw])
    all_goals (repeat' (first | with_reducible assumption | with_reducible rfl | omega | with_reducible exact ints_get (by omega) | with_reducible apply And.intro | unfold inInt | with_reducible exact isInts_ints _))) (Ends.cfg rfl h))
theorem symK_B {cn : List Int} {n : Nat} {xs : List Int} {a m b : Int} {Q : V → Aev.Rows → Prop} (h1 : inInt (m - a)) (h2 : m - a ≠ 1) (h3 : inInt (b - m)) (h4 : b - m = 1) (h : Ends c0 3 (HB n xs (TK cn) a m b a m) Q) : Ends c0 3 (s114 n xs (TK cn) a m b) Q :=
  Ends.cfg rfl (Ends.turn (c := cS) cS_ok (gds [(28,false),(80,true)]) (atLoop 3) 300 [0, 1, 2] [0, 1, 2, 3, 4, 14, 15] (ps := [inInt (m - a), (m - a == (1 : Int)) = false, inInt (b - m), (b - m == (1 : Int)) = true]) (by kernel_rfl) (by
    (try simp only [AllP, Int.toNat_natCast, ints_len, decide_eq_true_eq, decide_eq_false_iff_not, beq_eq_false_iff_ne, beq_iff_eq, bne_iff_ne, bne_eq_false_iff_eq, Bool.not_eq_true', Bool.not_eq_false', Int.not_lt, Int.not_le, gt_iff_lt, ge_iff_le, ne_eq, and_true, true_and, unI_ints, Nat.zero_add, List.length_set, Nat.le_refl, hf_raw])
    all_goals (repeat' (first | with_reducible assumption | with_reducible rfl | omega | with_reducible exact ints_get (by omega) | with_reducible apply And.intro | unfold inInt | with_reducible exact isInts_ints _))) (Ends.cfg rfl h))
theorem symK_C1 {cn : List Int} {n : Nat} {xs : List Int} {a m b : Int} {Q : V → Aev.Rows → Prop} (h1 : inInt (m - a)) (h2 : m - a ≠ 1) (h3 : inInt (b - m)) (h4 : b - m ≠ 1) (h5 : inInt (a + b)) (h6 : inInt (hf (a + b) + m)) (h7 : inInt (hf (a + b) + m - 1)) (h8 : hf (a + b) < m) (h9 : inInt (hf (a + b) + m - b)) (h : Ends c0 3 (HCs n xs (TK cn) a m b (hf (a + b)) (hf (a + b) + m) (hf (a + b) + m - b) (hf (a + b)) (hf (a + b) + m - 1)) Q) : Ends c0 3 (s114 n xs (TK cn) a m b) Q :=
  Ends.cfg rfl (Ends.turn (c := cS) cS_ok (gds [(28,false),(80,false),(140,true)]) (atLoop 2) 300 [0, 1, 2] [0, 1, 2, 3, 4, 18, 19, 20, 21, 22] (ps := [inInt (m - a), (m - a == (1 : Int)) = false, inInt (b - m), (b - m == (1 : Int)) = false, inInt (a + b), inInt (IntKind.wrap IntKind.i64 (Int.fdiv (IntKind.wrap IntKind.u64 (a + b)) ((2 : Int) ^ nat_lit 1)) + m), decide (m > IntKind.wrap IntKind.i64 (Int.fdiv (IntKind.wrap IntKind.u64 (a + b)) ((2 : Int) ^ nat_lit 1))) = true, inInt (IntKind.wrap IntKind.i64 (Int.fdiv (IntKind.wrap IntKind.u64 (a + b)) ((2 : Int) ^ nat_lit 1)) + m - b), inInt (IntKind.wrap IntKind.i64 (Int.fdiv (IntKind.wrap IntKind.u64 (a + b)) ((2 : Int) ^ nat_lit 1)) + m - (1 : Int))]) (by kernel_rfl) (by
    (try simp only [AllP, Int.toNat_natCast, ints_len, decide_eq_true_eq, decide_eq_false_iff_not, beq_eq_false_iff_ne, beq_iff_eq, bne_iff_ne, bne_eq_false_iff_eq, Bool.not_eq_true', Bool.not_eq_false', Int.not_lt, Int.not_le, gt_iff_lt, ge_iff_le, ne_eq, and_true, true_and, unI_ints, Nat.zero_add, List.length_set, Nat.le_refl, hf_raw])
    all_goals (repeat' (first | with_reducible assumption | with_reducible rfl | omega | with_reducible exact ints_get (by omega) | with_reducible apply And.intro | unfold inInt | with_reducible exact isInts_ints _))) (Ends.cfg rfl h))
theorem symK_C2 {cn : List Int} {n : Nat} {xs : List Int} {a m b : Int} {Q : V → Aev.Rows → Prop} (h1 : inInt (m - a)) (h2 : m - a ≠ 1) (h3 : inInt (b - m)) (h4 : b - m ≠ 1) (h5 : inInt (a + b)) (h6 : inInt (hf (a + b) + m)) (h7 : inInt (hf (a + b) + m - 1)) (h8 : m ≤ hf (a + b)) (h : Ends c0 3 (HCs n xs (TK cn) a m b (hf (a + b)) (hf (a + b) + m) a m (hf (a + b) + m - 1)) Q) : Ends c0 3 (s114 n xs (TK cn) a m b) Q :=
  Ends.cfg rfl (Ends.turn (c := cS) cS_ok (gds [(28,false),(80,false),(140,false)]) (atLoop 2) 300 [0, 1, 2] [0, 1, 2, 3, 4, 18, 19, 20, 21, 22] (ps := [inInt (m - a), (m - a == (1 : Int)) = false, inInt (b - m), (b - m == (1 : Int)) = false, inInt (a + b), inInt (IntKind.wrap IntKind.i64 (Int.fdiv (IntKind.wrap IntKind.u64 (a + b)) ((2 : Int) ^ nat_lit 1)) + m), decide (m > IntKind.wrap IntKind.i64 (Int.fdiv (IntKind.wrap IntKind.u64 (a + b)) ((2 : Int) ^ nat_lit 1))) = false, inInt (IntKind.wrap IntKind.i64 (Int.fdiv (IntKind.wrap IntKind.u64 (a + b)) ((2 : Int) ^ nat_lit 1)) + m - (1 : Int))]) (by kernel_rfl) (by
    (try simp only [AllP, Int.toNat_natCast, ints_len, decide_eq_true_eq, decide_eq_false_iff_not, beq_eq_false_iff_ne, beq_iff_eq, bne_iff_ne, bne_eq_false_iff_eq, Bool.not_eq_true', Bool.not_eq_false', Int.not_lt, Int.not_le, gt_iff_lt, ge_iff_le, ne_eq, and_true, true_and, unI_ints, Nat.zero_add, List.length_set, Nat.le_refl, hf_raw])
    all_goals (repeat' (first | with_reducible assumption | with_reducible rfl | omega | with_reducible exact ints_get (by omega) | with_reducible apply And.intro | unfold inInt | with_reducible exact isInts_ints _))) (Ends.cfg rfl h))
theorem symK_A_lt {cn : List Int} {n : Nat} {xs : List Int} {a m b i j : Int} {Q : V → Aev.Rows → Prop} (hn : n = xs.length) (h1 : i < j) (h2 : inInt (i + j)) (p0 : 0 ≤ hf (i + j)) (p1 : hf (i + j) < xs.length) (p2 : 0 ≤ xs.getD (hf (i + j)).toNat 0 ∧ xs.getD (hf (i + j)).toNat 0 < cn.length)(q0 : 0 ≤ a) (q1 : a < xs.length) (q2 : 0 ≤ xs.getD (a).toNat 0 ∧ xs.getD (a).toNat 0 < cn.length) (hc : cmpI (cn.getD (xs.getD (hf (i + j)).toNat 0).toNat 0) (cn.getD (xs.getD (a).toNat 0).toNat 0) < 0) (h3 : inInt (hf (i + j) + 1)) (h : Ends c0 3 (HA n xs (TK cn) a m b (hf (i + j) + 1) j) Q) : Ends c0 3 (HA n xs (TK cn) a m b i j) Q :=
  Ends.cfg rfl (Ends.turn (c := cS) cS_ok (gdr [(33,true),(50,true)] [] [(0, el xs)]) (atLoop 3) 300 [0, 1, 2] [0, 1, 2, 3, 4, 10, 11] (ps := [decide (i < j) = true, inInt (i + j), nat_lit 1 = nat_lit 1 ∧   (0 : Int) ≤ IntKind.wrap IntKind.i64 (Int.fdiv (IntKind.wrap IntKind.u64 (i + j)) ((2 : Int) ^ nat_lit 1)) ∧     IntKind.wrap IntKind.i64 (Int.fdiv (IntKind.wrap IntKind.u64 (i + j)) ((2 : Int) ^ nat_lit 1)) < (↑n : Int), nat_lit 1 = nat_lit 1 ∧   (ints         xs)[nat_lit 0 +         Int.toNat (IntKind.wrap IntKind.i64 (Int.fdiv (IntKind.wrap IntKind.u64 (i + j)) ((2 : Int) ^ nat_lit 1)))]? =     some       (D.int IntKind.i64         (List.getD xs           (nat_lit 0 +             Int.toNat (IntKind.wrap IntKind.i64 (Int.fdiv (IntKind.wrap IntKind.u64 (i + j)) ((2 : Int) ^ nat_lit 1))))           (0 : Int))), nat_lit 1 = nat_lit 1 ∧ (0 : Int) ≤ a ∧ a < (↑n : Int), nat_lit 1 = nat_lit 1 ∧   (ints xs)[nat_lit 0 + Int.toNat a]? = some (D.int IntKind.i64 (List.getD xs (nat_lit 0 + Int.toNat a) (0 : Int))), isInts (ints cn), (0 : Int) ≤     List.getD xs       (nat_lit 0 +         Int.toNat (IntKind.wrap IntKind.i64 (Int.fdiv (IntKind.wrap IntKind.u64 (i + j)) ((2 : Int) ^ nat_lit 1))))       (0 : Int) ∧   List.getD xs         (nat_lit 0 +           Int.toNat (IntKind.wrap IntKind.i64 (Int.fdiv (IntKind.wrap IntKind.u64 (i + j)) ((2 : Int) ^ nat_lit 1))))         (0 : Int) <       (↑(List.length (ints cn)) : Int) ∧     (0 : Int) ≤ List.getD xs (nat_lit 0 + Int.toNat a) (0 : Int) ∧       List.getD xs (nat_lit 0 + Int.toNat a) (0 : Int) < (↑(List.length (ints cn)) : Int), decide     (cmpI         (List.getD (List.map unI (ints cn))           (Int.toNat             (List.getD xs               (nat_lit 0 +                 Int.toNat                   (IntKind.wrap IntKind.i64 (Int.fdiv (IntKind.wrap IntKind.u64 (i + j)) ((2 : Int) ^ nat_lit 1))))               (0 : Int)))           (0 : Int))         (List.getD (List.map unI (ints cn)) (Int.toNat (List.getD xs (nat_lit 0 + Int.toNat a) (0 : Int))) (0 : Int)) <       (0 : Int)) =   true, inInt (IntKind.wrap IntKind.i64 (Int.fdiv (IntKind.wrap IntKind.u64 (i + j)) ((2 : Int) ^ nat_lit 1)) + (1 : Int))]) (by kernel_rfl) (by
    (try simp only [AllP, Int.toNat_natCast, ints_len, decide_eq_true_eq, decide_eq_false_iff_not, beq_eq_false_iff_ne, beq_iff_eq, bne_iff_ne, bne_eq_false_iff_eq, Bool.not_eq_true', Bool.not_eq_false', Int.not_lt, Int.not_le, gt_iff_lt, ge_iff_le, ne_eq, and_true, true_and, unI_ints, Nat.zero_add, List.length_set, Nat.le_refl, hf_raw])
    all_goals (repeat' (first | with_reducible assumption | with_reducible rfl | omega | with_reducible exact ints_get (by omega) | with_reducible apply And.intro | unfold inInt | with_reducible exact isInts_ints _))) (Ends.cfg rfl h))
theorem symK_A_ge {cn : List Int} {n : Nat} {xs : List Int} {a m b i j : Int} {Q : V → Aev.Rows → Prop} (hn : n = xs.length) (h1 : i < j) (h2 : inInt (i + j)) (p0 : 0 ≤ hf (i + j)) (p1 : hf (i + j) < xs.length) (p2 : 0 ≤ xs.getD (hf (i + j)).toNat 0 ∧ xs.getD (hf (i + j)).toNat 0 < cn.length)(q0 : 0 ≤ a) (q1 : a < xs.length) (q2 : 0 ≤ xs.getD (a).toNat 0 ∧ xs.getD (a).toNat 0 < cn.length) (hc : 0 ≤ cmpI (cn.getD (xs.getD (hf (i + j)).toNat 0).toNat 0) (cn.getD (xs.getD (a).toNat 0).toNat 0)) (h : Ends c0 3 (HA n xs (TK cn) a m b i (hf (i + j))) Q) : Ends c0 3 (HA n xs (TK cn) a m b i j) Q :=
  Ends.cfg rfl (Ends.turn (c := cS) cS_ok (gdr [(33,true),(50,false)] [] [(0, el xs)]) (atLoop 3) 300 [0, 1, 2] [0, 1, 2, 3, 4, 10, 11] (ps := [decide (i < j) = true, inInt (i + j), nat_lit 1 = nat_lit 1 ∧   (0 : Int) ≤ IntKind.wrap IntKind.i64 (Int.fdiv (IntKind.wrap IntKind.u64 (i + j)) ((2 : Int) ^ nat_lit 1)) ∧     IntKind.wrap IntKind.i64 (Int.fdiv (IntKind.wrap IntKind.u64 (i + j)) ((2 : Int) ^ nat_lit 1)) < (↑n : Int), nat_lit 1 = nat_lit 1 ∧   (ints         xs)[nat_lit 0 +         Int.toNat (IntKind.wrap IntKind.i64 (Int.fdiv (IntKind.wrap IntKind.u64 (i + j)) ((2 : Int) ^ nat_lit 1)))]? =     some       (D.int IntKind.i64         (List.getD xs           (nat_lit 0 +             Int.toNat (IntKind.wrap IntKind.i64 (Int.fdiv (IntKind.wrap IntKind.u64 (i + j)) ((2 : Int) ^ nat_lit 1))))           (0 : Int))), nat_lit 1 = nat_lit 1 ∧ (0 : Int) ≤ a ∧ a < (↑n : Int), nat_lit 1 = nat_lit 1 ∧   (ints xs)[nat_lit 0 + Int.toNat a]? = some (D.int IntKind.i64 (List.getD xs (nat_lit 0 + Int.toNat a) (0 : Int))), isInts (ints cn), (0 : Int) ≤     List.getD xs       (nat_lit 0 +         Int.toNat (IntKind.wrap IntKind.i64 (Int.fdiv (IntKind.wrap IntKind.u64 (i + j)) ((2 : Int) ^ nat_lit 1))))       (0 : Int) ∧   List.getD xs         (nat_lit 0 +           Int.toNat (IntKind.wrap IntKind.i64 (Int.fdiv (IntKind.wrap IntKind.u64 (i + j)) ((2 : Int) ^ nat_lit 1))))         (0 : Int) <       (↑(List.length (ints cn)) : Int) ∧     (0 : Int) ≤ List.getD xs (nat_lit 0 + Int.toNat a) (0 : Int) ∧       List.getD xs (nat_lit 0 + Int.toNat a) (0 : Int) < (↑(List.length (ints cn)) : Int), decide     (cmpI         (List.getD (List.map unI (ints cn))           (Int.toNat             (List.getD xs               (nat_lit 0 +                 Int.toNat                   (IntKind.wrap IntKind.i64 (Int.fdiv (IntKind.wrap IntKind.u64 (i + j)) ((2 : Int) ^ nat_lit 1))))               (0 : Int)))           (0 : Int))         (List.getD (List.map unI (ints cn)) (Int.toNat (List.getD xs (nat_lit 0 + Int.toNat a) (0 : Int))) (0 : Int)) <       (0 : Int)) =   false]) (by kernel_rfl) (by
    (try simp only [AllP, Int.toNat_natCast, ints_len, decide_eq_true_eq, decide_eq_false_iff_not, beq_eq_false_iff_ne, beq_iff_eq, bne_iff_ne, bne_eq_false_iff_eq, Bool.not_eq_true', Bool.not_eq_false', Int.not_lt, Int.not_le, gt_iff_lt, ge_iff_le, ne_eq, and_true, true_and, unI_ints, Nat.zero_add, List.length_set, Nat.le_refl, hf_raw])
    all_goals (repeat' (first | with_reducible assumption | with_reducible rfl | omega | with_reducible exact ints_get (by omega) | with_reducible apply And.intro | unfold inInt | with_reducible exact isInts_ints _))) (Ends.cfg rfl h))
theorem symK_A_done {cn : List Int} {n : Nat} {xs : List Int} {a m b i j : Int} {Q : V → Aev.Rows → Prop} (h1 : j ≤ i) (h : Ends c0 3 (HAs n (ints xs) (TK cn) i a) Q) : Ends c0 3 (HA n xs (TK cn) a m b i j) Q :=
  Ends.cfg rfl (Ends.turn (c := cS) cS_ok (gds [(33,false)]) (atLoop 3) 300 [0, 1, 2] [0, 10, 13] (ps := [decide (i < j) = false]) (by kernel_rfl) (by
    (try simp only [AllP, Int.toNat_natCast, ints_len, decide_eq_true_eq, decide_eq_false_iff_not, beq_eq_false_iff_ne, beq_iff_eq, bne_iff_ne, bne_eq_false_iff_eq, Bool.not_eq_true', Bool.not_eq_false', Int.not_lt, Int.not_le, gt_iff_lt, ge_iff_le, ne_eq, and_true, true_and, unI_ints, Nat.zero_add, List.length_set, Nat.le_refl, hf_raw])
    all_goals (repeat' (first | with_reducible assumption | with_reducible rfl | omega | with_reducible exact ints_get (by omega) | with_reducible apply And.intro | unfold inInt | with_reducible exact isInts_ints _))) (Ends.cfg rfl h))
theorem symK_A_swap {cn : List Int} {n : Nat} {xs : List Int} {i k : Int} {Q : V → Aev.Rows → Prop} (hn : n = xs.length) (hn2 : xs.length ≤ 1073741824) (h0 : inInt (i - 1)) (h1 : k < i - 1) (p0 : 0 ≤ k) (p1 : k + 1 < xs.length) (h : Ends c0 3 (HAs n (((ints xs).set (0 + k.toNat) (.int .i64 (xs.getD (0 + (k + 1).toNat) 0))).set (0 + (k + 1).toNat) (.int .i64 (xs.getD (0 + k.toNat) 0))) (TK cn) i (k + 1)) Q) : Ends c0 3 (HAs n (ints xs) (TK cn) i k) Q :=
  Ends.cfg rfl (Ends.turn (c := cS) cS_ok (gdr [(58,true)] [] [(0, el xs)]) (atLoop 3) 300 [0, 1, 2] [0, 10, 13] (ps := [inInt (i - (1 : Int)), decide (k < i - (1 : Int)) = true, inInt (k + (1 : Int)), inInt (k + (1 : Int)), nat_lit 1 = nat_lit 1 ∧ (0 : Int) ≤ k + (1 : Int) ∧ k + (1 : Int) < (↑n : Int), nat_lit 1 = nat_lit 1 ∧   (ints xs)[nat_lit 0 + Int.toNat (k + (1 : Int))]? =     some (D.int IntKind.i64 (List.getD xs (nat_lit 0 + Int.toNat (k + (1 : Int))) (0 : Int))), nat_lit 1 = nat_lit 1 ∧ (0 : Int) ≤ k ∧ k < (↑n : Int), nat_lit 1 = nat_lit 1 ∧   (ints xs)[nat_lit 0 + Int.toNat k]? = some (D.int IntKind.i64 (List.getD xs (nat_lit 0 + Int.toNat k) (0 : Int))), nat_lit 1 = nat_lit 1 ∧ (0 : Int) ≤ k ∧ k < (↑n : Int), nat_lit 1 = nat_lit 1 ∧ nat_lit 0 < nat_lit 1 ∧ true = true, nat_lit 0 + Int.toNat k < List.length (ints xs), nat_lit 1 = nat_lit 1 ∧ nat_lit 0 = nat_lit 0 ∧ nat_lit 1 = nat_lit 1 ∧ true = true, nat_lit 1 = nat_lit 1 ∧ (0 : Int) ≤ k + (1 : Int) ∧ k + (1 : Int) < (↑n : Int), nat_lit 1 = nat_lit 1 ∧ nat_lit 0 < nat_lit 1 ∧ true = true, nat_lit 0 + Int.toNat (k + (1 : Int)) <   List.length     (List.set (ints xs) (nat_lit 0 + Int.toNat k)       (mkElem         (Ty.agg           {             desc :=               TypeInfo.desc                 { desc := TypeDesc.int IntKind.i64, str := "int", size := nat_lit 1, bytes := nat_lit 8,                   hasPointers := false, align := nat_lit 8, fieldAlign := nat_lit 8,                   zero := some (Value.int IntKind.i64 (0 : Int)), comparable := true, methods := #[] },             size := nat_lit 1, bytes := nat_lit 8, zero := Value.int IntKind.i64 (0 : Int) })         [Prod.snd (nat_lit 0, el xs) (nat_lit 0 + Int.toNat (k + (1 : Int)))])), nat_lit 1 = nat_lit 1 ∧ nat_lit 0 = nat_lit 0 ∧ nat_lit 1 = nat_lit 1 ∧ true = true, inInt (k + (1 : Int))]) (by kernel_rfl) (by
    (try simp only [AllP, Int.toNat_natCast, ints_len, decide_eq_true_eq, decide_eq_false_iff_not, beq_eq_false_iff_ne, beq_iff_eq, bne_iff_ne, bne_eq_false_iff_eq, Bool.not_eq_true', Bool.not_eq_false', Int.not_lt, Int.not_le, gt_iff_lt, ge_iff_le, ne_eq, and_true, true_and, unI_ints, Nat.zero_add, List.length_set, Nat.le_refl, hf_raw])
    all_goals (repeat' (first | with_reducible assumption | with_reducible rfl | omega | with_reducible exact ints_get (by omega) | with_reducible apply And.intro | unfold inInt | with_reducible exact isInts_ints _))) (Ends.cfg rfl h))
theorem symK_A_end {cn : List Int} {n : Nat} {xs : List Int} {i k : Int} {Q : V → Aev.Rows → Prop} (h0 : inInt (i - 1)) (h1 : i - 1 ≤ k) (h : Q (.tup []) (RW xs :: (TK cn))) : Ends c0 3 (HAs n (ints xs) (TK cn) i k) Q :=
  Ends.cfg rfl (Ends.fin (c := cS) cS_ok (gds [(58,false)]) 300 (ps := [inInt (i - (1 : Int)), decide (k < i - (1 : Int)) = false]) (by kernel_rfl) (by
    (try simp only [AllP, Int.toNat_natCast, ints_len, decide_eq_true_eq, decide_eq_false_iff_not, beq_eq_false_iff_ne, beq_iff_eq, bne_iff_ne, bne_eq_false_iff_eq, Bool.not_eq_true', Bool.not_eq_false', Int.not_lt, Int.not_le, gt_iff_lt, ge_iff_le, ne_eq, and_true, true_and, unI_ints, Nat.zero_add, List.length_set, Nat.le_refl, hf_raw])
    all_goals (repeat' (first | with_reducible assumption | with_reducible rfl | omega | with_reducible exact ints_get (by omega) | with_reducible apply And.intro | unfold inInt | with_reducible exact isInts_ints _))) h)
theorem symK_B_ge {cn : List Int} {n : Nat} {xs : List Int} {a m b i j : Int} {Q : V → Aev.Rows → Prop} (hn : n = xs.length) (h1 : i < j) (h2 : inInt (i + j)) (p0 : 0 ≤ m) (p1 : m < xs.length) (p2 : 0 ≤ xs.getD (m).toNat 0 ∧ xs.getD (m).toNat 0 < cn.length)(q0 : 0 ≤ hf (i + j)) (q1 : hf (i + j) < xs.length) (q2 : 0 ≤ xs.getD (hf (i + j)).toNat 0 ∧ xs.getD (hf (i + j)).toNat 0 < cn.length) (hc : 0 ≤ cmpI (cn.getD (xs.getD (m).toNat 0).toNat 0) (cn.getD (xs.getD (hf (i + j)).toNat 0).toNat 0)) (h3 : inInt (hf (i + j) + 1)) (h : Ends c0 3 (HB n xs (TK cn) a m b (hf (i + j) + 1) j) Q) : Ends c0 3 (HB n xs (TK cn) a m b i j) Q :=
  Ends.cfg rfl (Ends.turn (c := cS) cS_ok (gdr [(85,true),(103,true)] [] [(0, el xs)]) (atLoop 3) 300 [0, 1, 2] [0, 1, 2, 3, 4, 14, 15] (ps := [decide (i < j) = true, inInt (i + j), nat_lit 1 = nat_lit 1 ∧ (0 : Int) ≤ m ∧ m < (↑n : Int), nat_lit 1 = nat_lit 1 ∧   (ints xs)[nat_lit 0 + Int.toNat m]? = some (D.int IntKind.i64 (List.getD xs (nat_lit 0 + Int.toNat m) (0 : Int))), nat_lit 1 = nat_lit 1 ∧   (0 : Int) ≤ IntKind.wrap IntKind.i64 (Int.fdiv (IntKind.wrap IntKind.u64 (i + j)) ((2 : Int) ^ nat_lit 1)) ∧     IntKind.wrap IntKind.i64 (Int.fdiv (IntKind.wrap IntKind.u64 (i + j)) ((2 : Int) ^ nat_lit 1)) < (↑n : Int), nat_lit 1 = nat_lit 1 ∧   (ints         xs)[nat_lit 0 +         Int.toNat (IntKind.wrap IntKind.i64 (Int.fdiv (IntKind.wrap IntKind.u64 (i + j)) ((2 : Int) ^ nat_lit 1)))]? =     some       (D.int IntKind.i64         (List.getD xs           (nat_lit 0 +             Int.toNat (IntKind.wrap IntKind.i64 (Int.fdiv (IntKind.wrap IntKind.u64 (i + j)) ((2 : Int) ^ nat_lit 1))))           (0 : Int))), isInts (ints cn), (0 : Int) ≤ List.getD xs (nat_lit 0 + Int.toNat m) (0 : Int) ∧   List.getD xs (nat_lit 0 + Int.toNat m) (0 : Int) < (↑(List.length (ints cn)) : Int) ∧     (0 : Int) ≤         List.getD xs           (nat_lit 0 +             Int.toNat (IntKind.wrap IntKind.i64 (Int.fdiv (IntKind.wrap IntKind.u64 (i + j)) ((2 : Int) ^ nat_lit 1))))           (0 : Int) ∧       List.getD xs           (nat_lit 0 +             Int.toNat (IntKind.wrap IntKind.i64 (Int.fdiv (IntKind.wrap IntKind.u64 (i + j)) ((2 : Int) ^ nat_lit 1))))           (0 : Int) <         (↑(List.length (ints cn)) : Int), (!decide       (cmpI           (List.getD (List.map unI (ints cn)) (Int.toNat (List.getD xs (nat_lit 0 + Int.toNat m) (0 : Int))) (0 : Int))           (List.getD (List.map unI (ints cn))             (Int.toNat               (List.getD xs                 (nat_lit 0 +                   Int.toNat                     (IntKind.wrap IntKind.i64 (Int.fdiv (IntKind.wrap IntKind.u64 (i + j)) ((2 : Int) ^ nat_lit 1))))                 (0 : Int)))             (0 : Int)) <         (0 : Int))) =   true, inInt (IntKind.wrap IntKind.i64 (Int.fdiv (IntKind.wrap IntKind.u64 (i + j)) ((2 : Int) ^ nat_lit 1)) + (1 : Int))]) (by kernel_rfl) (by
    (try simp only [AllP, Int.toNat_natCast, ints_len, decide_eq_true_eq, decide_eq_false_iff_not, beq_eq_false_iff_ne, beq_iff_eq, bne_iff_ne, bne_eq_false_iff_eq, Bool.not_eq_true', Bool.not_eq_false', Int.not_lt, Int.not_le, gt_iff_lt, ge_iff_le, ne_eq, and_true, true_and, unI_ints, Nat.zero_add, List.length_set, Nat.le_refl, hf_raw])
    all_goals (repeat' (first | with_reducible assumption | with_reducible rfl | omega | with_reducible exact ints_get (by omega) | with_reducible apply And.intro | unfold inInt | with_reducible exact isInts_ints _))) (Ends.cfg rfl h))
theorem symK_B_lt {cn : List Int} {n : Nat} {xs : List Int} {a m b i j : Int} {Q : V → Aev.Rows → Prop} (hn : n = xs.length) (h1 : i < j) (h2 : inInt (i + j)) (p0 : 0 ≤ m) (p1 : m < xs.length) (p2 : 0 ≤ xs.getD (m).toNat 0 ∧ xs.getD (m).toNat 0 < cn.length)(q0 : 0 ≤ hf (i + j)) (q1 : hf (i + j) < xs.length) (q2 : 0 ≤ xs.getD (hf (i + j)).toNat 0 ∧ xs.getD (hf (i + j)).toNat 0 < cn.length) (hc : cmpI (cn.getD (xs.getD (m).toNat 0).toNat 0) (cn.getD (xs.getD (hf (i + j)).toNat 0).toNat 0) < 0) (h : Ends c0 3 (HB n xs (TK cn) a m b i (hf (i + j))) Q) : Ends c0 3 (HB n xs (TK cn) a m b i j) Q :=
  Ends.cfg rfl (Ends.turn (c := cS) cS_ok (gdr [(85,true),(103,false)] [] [(0, el xs)]) (atLoop 3) 300 [0, 1, 2] [0, 1, 2, 3, 4, 14, 15] (ps := [decide (i < j) = true, inInt (i + j), nat_lit 1 = nat_lit 1 ∧ (0 : Int) ≤ m ∧ m < (↑n : Int), nat_lit 1 = nat_lit 1 ∧   (ints xs)[nat_lit 0 + Int.toNat m]? = some (D.int IntKind.i64 (List.getD xs (nat_lit 0 + Int.toNat m) (0 : Int))), nat_lit 1 = nat_lit 1 ∧   (0 : Int) ≤ IntKind.wrap IntKind.i64 (Int.fdiv (IntKind.wrap IntKind.u64 (i + j)) ((2 : Int) ^ nat_lit 1)) ∧     IntKind.wrap IntKind.i64 (Int.fdiv (IntKind.wrap IntKind.u64 (i + j)) ((2 : Int) ^ nat_lit 1)) < (↑n : Int), nat_lit 1 = nat_lit 1 ∧   (ints         xs)[nat_lit 0 +         Int.toNat (IntKind.wrap IntKind.i64 (Int.fdiv (IntKind.wrap IntKind.u64 (i + j)) ((2 : Int) ^ nat_lit 1)))]? =     some       (D.int IntKind.i64         (List.getD xs           (nat_lit 0 +             Int.toNat (IntKind.wrap IntKind.i64 (Int.fdiv (IntKind.wrap IntKind.u64 (i + j)) ((2 : Int) ^ nat_lit 1))))           (0 : Int))), isInts (ints cn), (0 : Int) ≤ List.getD xs (nat_lit 0 + Int.toNat m) (0 : Int) ∧   List.getD xs (nat_lit 0 + Int.toNat m) (0 : Int) < (↑(List.length (ints cn)) : Int) ∧     (0 : Int) ≤         List.getD xs           (nat_lit 0 +             Int.toNat (IntKind.wrap IntKind.i64 (Int.fdiv (IntKind.wrap IntKind.u64 (i + j)) ((2 : Int) ^ nat_lit 1))))           (0 : Int) ∧       List.getD xs           (nat_lit 0 +             Int.toNat (IntKind.wrap IntKind.i64 (Int.fdiv (IntKind.wrap IntKind.u64 (i + j)) ((2 : Int) ^ nat_lit 1))))           (0 : Int) <         (↑(List.length (ints cn)) : Int), (!decide       (cmpI           (List.getD (List.map unI (ints cn)) (Int.toNat (List.getD xs (nat_lit 0 + Int.toNat m) (0 : Int))) (0 : Int))           (List.getD (List.map unI (ints cn))             (Int.toNat               (List.getD xs                 (nat_lit 0 +                   Int.toNat                     (IntKind.wrap IntKind.i64 (Int.fdiv (IntKind.wrap IntKind.u64 (i + j)) ((2 : Int) ^ nat_lit 1))))                 (0 : Int)))             (0 : Int)) <         (0 : Int))) =   false]) (by kernel_rfl) (by
    (try simp only [AllP, Int.toNat_natCast, ints_len, decide_eq_true_eq, decide_eq_false_iff_not, beq_eq_false_iff_ne, beq_iff_eq, bne_iff_ne, bne_eq_false_iff_eq, Bool.not_eq_true', Bool.not_eq_false', Int.not_lt, Int.not_le, gt_iff_lt, ge_iff_le, ne_eq, and_true, true_and, unI_ints, Nat.zero_add, List.length_set, Nat.le_refl, hf_raw])
    all_goals (repeat' (first | with_reducible assumption | with_reducible rfl | omega | with_reducible exact ints_get (by omega) | with_reducible apply And.intro | unfold inInt | with_reducible exact isInts_ints _))) (Ends.cfg rfl h))
theorem symK_B_done {cn : List Int} {n : Nat} {xs : List Int} {a m b i j : Int} {Q : V → Aev.Rows → Prop} (h1 : j ≤ i) (h : Ends c0 3 (HBs n (ints xs) (TK cn) i m) Q) : Ends c0 3 (HB n xs (TK cn) a m b i j) Q :=
  Ends.cfg rfl (Ends.turn (c := cS) cS_ok (gds [(85,false)]) (atLoop 3) 300 [0, 1, 2] [0, 14, 17] (ps := [decide (i < j) = false]) (by kernel_rfl) (by
    (try simp only [AllP, Int.toNat_natCast, ints_len, decide_eq_true_eq, decide_eq_false_iff_not, beq_eq_false_iff_ne, beq_iff_eq, bne_iff_ne, bne_eq_false_iff_eq, Bool.not_eq_true', Bool.not_eq_false', Int.not_lt, Int.not_le, gt_iff_lt, ge_iff_le, ne_eq, and_true, true_and, unI_ints, Nat.zero_add, List.length_set, Nat.le_refl, hf_raw])
    all_goals (repeat' (first | with_reducible assumption | with_reducible rfl | omega | with_reducible exact ints_get (by omega) | with_reducible apply And.intro | unfold inInt | with_reducible exact isInts_ints _))) (Ends.cfg rfl h))
theorem symK_B_swap {cn : List Int} {n : Nat} {xs : List Int} {i k : Int} {Q : V → Aev.Rows → Prop} (hn : n = xs.length) (hn2 : xs.length ≤ 1073741824) (h1 : i < k) (p0 : 0 ≤ i) (p1 : k < xs.length) (h : Ends c0 3 (HBs n (((ints xs).set (0 + k.toNat) (.int .i64 (xs.getD (0 + (k - 1).toNat) 0))).set (0 + (k - 1).toNat) (.int .i64 (xs.getD (0 + k.toNat) 0))) (TK cn) i (k - 1)) Q) : Ends c0 3 (HBs n (ints xs) (TK cn) i k) Q :=
  Ends.cfg rfl (Ends.turn (c := cS) cS_ok (gdr [(110,true)] [] [(0, el xs)]) (atLoop 3) 300 [0, 1, 2] [0, 14, 17] (ps := [decide (k > i) = true, inInt (k - (1 : Int)), inInt (k - (1 : Int)), nat_lit 1 = nat_lit 1 ∧ (0 : Int) ≤ k - (1 : Int) ∧ k - (1 : Int) < (↑n : Int), nat_lit 1 = nat_lit 1 ∧   (ints xs)[nat_lit 0 + Int.toNat (k - (1 : Int))]? =     some (D.int IntKind.i64 (List.getD xs (nat_lit 0 + Int.toNat (k - (1 : Int))) (0 : Int))), nat_lit 1 = nat_lit 1 ∧ (0 : Int) ≤ k ∧ k < (↑n : Int), nat_lit 1 = nat_lit 1 ∧   (ints xs)[nat_lit 0 + Int.toNat k]? = some (D.int IntKind.i64 (List.getD xs (nat_lit 0 + Int.toNat k) (0 : Int))), nat_lit 1 = nat_lit 1 ∧ (0 : Int) ≤ k ∧ k < (↑n : Int), nat_lit 1 = nat_lit 1 ∧ nat_lit 0 < nat_lit 1 ∧ true = true, nat_lit 0 + Int.toNat k < List.length (ints xs), nat_lit 1 = nat_lit 1 ∧ nat_lit 0 = nat_lit 0 ∧ nat_lit 1 = nat_lit 1 ∧ true = true, nat_lit 1 = nat_lit 1 ∧ (0 : Int) ≤ k - (1 : Int) ∧ k - (1 : Int) < (↑n : Int), nat_lit 1 = nat_lit 1 ∧ nat_lit 0 < nat_lit 1 ∧ true = true, nat_lit 0 + Int.toNat (k - (1 : Int)) <   List.length     (List.set (ints xs) (nat_lit 0 + Int.toNat k)       (mkElem         (Ty.agg           {             desc :=               TypeInfo.desc                 { desc := TypeDesc.int IntKind.i64, str := "int", size := nat_lit 1, bytes := nat_lit 8,                   hasPointers := false, align := nat_lit 8, fieldAlign := nat_lit 8,                   zero := some (Value.int IntKind.i64 (0 : Int)), comparable := true, methods := #[] },             size := nat_lit 1, bytes := nat_lit 8, zero := Value.int IntKind.i64 (0 : Int) })         [Prod.snd (nat_lit 0, el xs) (nat_lit 0 + Int.toNat (k - (1 : Int)))])), nat_lit 1 = nat_lit 1 ∧ nat_lit 0 = nat_lit 0 ∧ nat_lit 1 = nat_lit 1 ∧ true = true, inInt (k - (1 : Int))]) (by kernel_rfl) (by
    (try simp only [AllP, Int.toNat_natCast, ints_len, decide_eq_true_eq, decide_eq_false_iff_not, beq_eq_false_iff_ne, beq_iff_eq, bne_iff_ne, bne_eq_false_iff_eq, Bool.not_eq_true', Bool.not_eq_false', Int.not_lt, Int.not_le, gt_iff_lt, ge_iff_le, ne_eq, and_true, true_and, unI_ints, Nat.zero_add, List.length_set, Nat.le_refl, hf_raw])
    all_goals (repeat' (first | with_reducible assumption | with_reducible rfl | omega | with_reducible exact ints_get (by omega) | with_reducible apply And.intro | unfold inInt | with_reducible exact isInts_ints _))) (Ends.cfg rfl h))
theorem symK_B_end {cn : List Int} {n : Nat} {xs : List Int} {i k : Int} {Q : V → Aev.Rows → Prop} (h1 : k ≤ i) (h : Q (.tup []) (RW xs :: (TK cn))) : Ends c0 3 (HBs n (ints xs) (TK cn) i k) Q :=
  Ends.cfg rfl (Ends.fin (c := cS) cS_ok (gds [(110,false)]) 300 (ps := [decide (k > i) = false]) (by kernel_rfl) (by
    (try simp only [AllP, Int.toNat_natCast, ints_len, decide_eq_true_eq, decide_eq_false_iff_not, beq_eq_false_iff_ne, beq_iff_eq, bne_iff_ne, bne_eq_false_iff_eq, Bool.not_eq_true', Bool.not_eq_false', Int.not_lt, Int.not_le, gt_iff_lt, ge_iff_le, ne_eq, and_true, true_and, unI_ints, Nat.zero_add, List.length_set, Nat.le_refl, hf_raw])
    all_goals (repeat' (first | with_reducible assumption | with_reducible rfl | omega | with_reducible exact ints_get (by omega) | with_reducible apply And.intro | unfold inInt | with_reducible exact isInts_ints _))) h)
end Go.Aev.M33
end
/- M33Sym1N -/
section
namespace Go.Aev.M33
set_option maxRecDepth 1000000
set_option linter.unusedSimpArgs false
set_option linter.unusedVariables false
theorem symN_A {n : Nat} {xs : List Int} {a m b : Int} {Q : V → Aev.Rows → Prop} (h1 : inInt (m - a)) (h2 : m - a = 1) (h : Ends c0 2 (HA n xs TN a m b m b) Q) : Ends c0 2 (s114 n xs TN a m b) Q :=
  Ends.cfg rfl (Ends.turn (c := cS) cS_ok (gds [(28,true)]) (atLoop 3) 300 [0, 1] [0, 1, 2, 3, 4, 10, 11] (ps := [inInt (m - a), (m - a == (1 : Int)) = true]) (by kernel_rfl) (by
    (try simp only [AllP, Int.toNat_natCast, ints_len, decide_eq_true_eq, decide_eq_false_iff_not, beq_eq_false_iff_ne, beq_iff_eq, bne_iff_ne, bne_eq_false_iff_eq, Bool.not_eq_true', Bool.not_eq_false', Int.not_lt, Int.not_le, gt_iff_lt, ge_iff_le, ne_eq, and_true, true_and, unI_ints, Nat.zero_add, List.length_set, Nat.le_refl, hf_raw])
    all_goals (repeat' (first | with_reducible assumption | with_reducible rfl | omega | with_reducible exact ints_get (by omega) | with_reducible apply And.intro | unfold inInt | with_reducible exact isInts_ints _))) (Ends.cfg rfl h))
theorem symN_B {n : Nat} {xs : List Int} {a m b : Int} {Q : V → Aev.Rows → Prop} (h1 : inInt (m - a)) (h2 : m - a ≠ 1) (h3 : inInt (b - m)) (h4 : b - m = 1) (h : Ends c0 2 (HB n xs TN a m b a m) Q) : Ends c0 2 (s114 n xs TN a m b) Q :=
  Ends.cfg rfl (Ends.turn (c := cS) cS_ok (gds [(28,false),(80,true)]) (atLoop 3) 300 [0, 1] [0, 1, 2, 3, 4, 14, 15] (ps := [inInt (m - a), (m - a == (1 : Int)) = false, inInt (b - m), (b - m == (1 : Int)) = true]) (by kernel_rfl) (by
    (try simp only [AllP, Int.toNat_natCast, ints_len, decide_eq_true_eq, decide_eq_false_iff_not, beq_eq_false_iff_ne, beq_iff_eq, bne_iff_ne, bne_eq_false_iff_eq, Bool.not_eq_true', Bool.not_eq_false', Int.not_lt, Int.not_le, gt_iff_lt, ge_iff_le, ne_eq, and_true, true_and, unI_ints, Nat.zero_add, List.length_set, Nat.le_refl, hf_raw])
    all_goals (repeat' (first | with_reducible assumption | with_reducible rfl | omega | with_reducible exact ints_get (by omega) | with_reducible apply And.intro | unfold inInt | with_reducible exact isInts_ints _))) (Ends.cfg rfl h))
theorem symN_C1 {n : Nat} {xs : List Int} {a m b : Int} {Q : V → Aev.Rows → Prop} (h1 : inInt (m - a)) (h2 : m - a ≠ 1) (h3 : inInt (b - m)) (h4 : b - m ≠ 1) (h5 : inInt (a + b)) (h6 : inInt (hf (a + b) + m)) (h7 : inInt (hf (a + b) + m - 1)) (h8 : hf (a + b) < m) (h9 : inInt (hf (a + b) + m - b)) (h : Ends c0 2 (HCs n xs TN a m b (hf (a + b)) (hf (a + b) + m) (hf (a + b) + m - b) (hf (a + b)) (hf (a + b) + m - 1)) Q) : Ends c0 2 (s114 n xs TN a m b) Q :=
  Ends.cfg rfl (Ends.turn (c := cS) cS_ok (gds [(28,false),(80,false),(140,true)]) (atLoop 2) 300 [0, 1] [0, 1, 2, 3, 4, 18, 19, 20, 21, 22] (ps := [inInt (m - a), (m - a == (1 : Int)) = false, inInt (b - m), (b - m == (1 : Int)) = false, inInt (a + b), inInt (IntKind.wrap IntKind.i64 (Int.fdiv (IntKind.wrap IntKind.u64 (a + b)) ((2 : Int) ^ nat_lit 1)) + m), decide (m > IntKind.wrap IntKind.i64 (Int.fdiv (IntKind.wrap IntKind.u64 (a + b)) ((2 : Int) ^ nat_lit 1))) = true, inInt (IntKind.wrap IntKind.i64 (Int.fdiv (IntKind.wrap IntKind.u64 (a + b)) ((2 : Int) ^ nat_lit 1)) + m - b), inInt (IntKind.wrap IntKind.i64 (Int.fdiv (IntKind.wrap IntKind.u64 (a + b)) ((2 : Int) ^ nat_lit 1)) + m - (1 : Int))]) (by kernel_rfl) (by
    (try simp only [AllP, Int.toNat_natCast, ints_len, decide_eq_true_eq, decide_eq_false_iff_not, beq_eq_false_iff_ne, beq_iff_eq, bne_iff_ne, bne_eq_false_iff_eq, Bool.not_eq_true', Bool.not_eq_false', Int.not_lt, Int.not_le, gt_iff_lt, ge_iff_le, ne_eq, and_true, true_and, unI_ints, Nat.zero_add, List.length_set, Nat.le_refl, hf_raw])
    all_goals (repeat' (first | with_reducible assumption | with_reducible rfl | omega | with_reducible exact ints_get (by omega) | with_reducible apply And.intro | unfold inInt | with_reducible exact isInts_ints _))) (Ends.cfg rfl h))
theorem symN_C2 {n : Nat} {xs : List Int} {a m b : Int} {Q : V → Aev.Rows → Prop} (h1 : inInt (m - a)) (h2 : m - a ≠ 1) (h3 : inInt (b - m)) (h4 : b - m ≠ 1) (h5 : inInt (a + b)) (h6 : inInt (hf (a + b) + m)) (h7 : inInt (hf (a + b) + m - 1)) (h8 : m ≤ hf (a + b)) (h : Ends c0 2 (HCs n xs TN a m b (hf (a + b)) (hf (a + b) + m) a m (hf (a + b) + m - 1)) Q) : Ends c0 2 (s114 n xs TN a m b) Q :=
  Ends.cfg rfl (Ends.turn (c := cS) cS_ok (gds [(28,false),(80,false),(140,false)]) (atLoop 2) 300 [0, 1] [0, 1, 2, 3, 4, 18, 19, 20, 21, 22] (ps := [inInt (m - a), (m - a == (1 : Int)) = false, inInt (b - m), (b - m == (1 : Int)) = false, inInt (a + b), inInt (IntKind.wrap IntKind.i64 (Int.fdiv (IntKind.wrap IntKind.u64 (a + b)) ((2 : Int) ^ nat_lit 1)) + m), decide (m > IntKind.wrap IntKind.i64 (Int.fdiv (IntKind.wrap IntKind.u64 (a + b)) ((2 : Int) ^ nat_lit 1))) = false, inInt (IntKind.wrap IntKind.i64 (Int.fdiv (IntKind.wrap IntKind.u64 (a + b)) ((2 : Int) ^ nat_lit 1)) + m - (1 : Int))]) (by kernel_rfl) (by
    (try simp only [AllP, Int.toNat_natCast, ints_len, decide_eq_true_eq, decide_eq_false_iff_not, beq_eq_false_iff_ne, beq_iff_eq, bne_iff_ne, bne_eq_false_iff_eq, Bool.not_eq_true', Bool.not_eq_false', Int.not_lt, Int.not_le, gt_iff_lt, ge_iff_le, ne_eq, and_true, true_and, unI_ints, Nat.zero_add, List.length_set, Nat.le_refl, hf_raw])
    all_goals (repeat' (first | with_reducible assumption | with_reducible rfl | omega | with_reducible exact ints_get (by omega) | with_reducible apply And.intro | unfold inInt | with_reducible exact isInts_ints _))) (Ends.cfg rfl h))
theorem symN_A_lt {n : Nat} {xs : List Int} {a m b i j : Int} {Q : V → Aev.Rows → Prop} (hn : n = xs.length) (h1 : i < j) (h2 : inInt (i + j)) (p0 : 0 ≤ hf (i + j)) (p1 : hf (i + j) < xs.length)(q0 : 0 ≤ a) (q1 : a < xs.length) (hc : cmpI (xs.getD (hf (i + j)).toNat 0) (xs.getD (a).toNat 0) < 0) (h3 : inInt (hf (i + j) + 1)) (h : Ends c0 2 (HA n xs TN a m b (hf (i + j) + 1) j) Q) : Ends c0 2 (HA n xs TN a m b i j) Q :=
  Ends.cfg rfl (Ends.turn (c := cS) cS_ok (gdr [(33,true),(50,true)] [] [(0, el xs)]) (atLoop 3) 300 [0, 1] [0, 1, 2, 3, 4, 10, 11] (ps := [decide (i < j) = true, inInt (i + j), nat_lit 1 = nat_lit 1 ∧   (0 : Int) ≤ IntKind.wrap IntKind.i64 (Int.fdiv (IntKind.wrap IntKind.u64 (i + j)) ((2 : Int) ^ nat_lit 1)) ∧     IntKind.wrap IntKind.i64 (Int.fdiv (IntKind.wrap IntKind.u64 (i + j)) ((2 : Int) ^ nat_lit 1)) < (↑n : Int), nat_lit 1 = nat_lit 1 ∧   (ints         xs)[nat_lit 0 +         Int.toNat (IntKind.wrap IntKind.i64 (Int.fdiv (IntKind.wrap IntKind.u64 (i + j)) ((2 : Int) ^ nat_lit 1)))]? =     some       (D.int IntKind.i64         (List.getD xs           (nat_lit 0 +             Int.toNat (IntKind.wrap IntKind.i64 (Int.fdiv (IntKind.wrap IntKind.u64 (i + j)) ((2 : Int) ^ nat_lit 1))))           (0 : Int))), nat_lit 1 = nat_lit 1 ∧ (0 : Int) ≤ a ∧ a < (↑n : Int), nat_lit 1 = nat_lit 1 ∧   (ints xs)[nat_lit 0 + Int.toNat a]? = some (D.int IntKind.i64 (List.getD xs (nat_lit 0 + Int.toNat a) (0 : Int))), decide     (cmpI         (List.getD xs           (nat_lit 0 +             Int.toNat (IntKind.wrap IntKind.i64 (Int.fdiv (IntKind.wrap IntKind.u64 (i + j)) ((2 : Int) ^ nat_lit 1))))           (0 : Int))         (List.getD xs (nat_lit 0 + Int.toNat a) (0 : Int)) <       (0 : Int)) =   true, inInt (IntKind.wrap IntKind.i64 (Int.fdiv (IntKind.wrap IntKind.u64 (i + j)) ((2 : Int) ^ nat_lit 1)) + (1 : Int))]) (by kernel_rfl) (by
    (try simp only [AllP, Int.toNat_natCast, ints_len, decide_eq_true_eq, decide_eq_false_iff_not, beq_eq_false_iff_ne, beq_iff_eq, bne_iff_ne, bne_eq_false_iff_eq, Bool.not_eq_true', Bool.not_eq_false', Int.not_lt, Int.not_le, gt_iff_lt, ge_iff_le, ne_eq, and_true, true_and, unI_ints, Nat.zero_add, List.length_set, Nat.le_refl, hf_raw])
    all_goals (repeat' (first | with_reducible assumption | with_reducible rfl | omega | with_reducible exact ints_get (by omega) | with_reducible apply And.intro | unfold inInt | with_reducible exact isInts_ints _))) (Ends.cfg rfl h))
theorem symN_A_ge {n : Nat} {xs : List Int} {a m b i j : Int} {Q : V → Aev.Rows → Prop} (hn : n = xs.length) (h1 : i < j) (h2 : inInt (i + j)) (p0 : 0 ≤ hf (i + j)) (p1 : hf (i + j) < xs.length)(q0 : 0 ≤ a) (q1 : a < xs.length) (hc : 0 ≤ cmpI (xs.getD (hf (i + j)).toNat 0) (xs.getD (a).toNat 0)) (h : Ends c0 2 (HA n xs TN a m b i (hf (i + j))) Q) : Ends c0 2 (HA n xs TN a m b i j) Q :=
  Ends.cfg rfl (Ends.turn (c := cS) cS_ok (gdr [(33,true),(50,false)] [] [(0, el xs)]) (atLoop 3) 300 [0, 1] [0, 1, 2, 3, 4, 10, 11] (ps := [decide (i < j) = true, inInt (i + j), nat_lit 1 = nat_lit 1 ∧   (0 : Int) ≤ IntKind.wrap IntKind.i64 (Int.fdiv (IntKind.wrap IntKind.u64 (i + j)) ((2 : Int) ^ nat_lit 1)) ∧     IntKind.wrap IntKind.i64 (Int.fdiv (IntKind.wrap IntKind.u64 (i + j)) ((2 : Int) ^ nat_lit 1)) < (↑n : Int), nat_lit 1 = nat_lit 1 ∧   (ints         xs)[nat_lit 0 +         Int.toNat (IntKind.wrap IntKind.i64 (Int.fdiv (IntKind.wrap IntKind.u64 (i + j)) ((2 : Int) ^ nat_lit 1)))]? =     some       (D.int IntKind.i64         (List.getD xs           (nat_lit 0 +             Int.toNat (IntKind.wrap IntKind.i64 (Int.fdiv (IntKind.wrap IntKind.u64 (i + j)) ((2 : Int) ^ nat_lit 1))))           (0 : Int))), nat_lit 1 = nat_lit 1 ∧ (0 : Int) ≤ a ∧ a < (↑n : Int), nat_lit 1 = nat_lit 1 ∧   (ints xs)[nat_lit 0 + Int.toNat a]? = some (D.int IntKind.i64 (List.getD xs (nat_lit 0 + Int.toNat a) (0 : Int))), decide     (cmpI         (List.getD xs           (nat_lit 0 +             Int.toNat (IntKind.wrap IntKind.i64 (Int.fdiv (IntKind.wrap IntKind.u64 (i + j)) ((2 : Int) ^ nat_lit 1))))           (0 : Int))         (List.getD xs (nat_lit 0 + Int.toNat a) (0 : Int)) <       (0 : Int)) =   false]) (by kernel_rfl) (by
    (try simp only [AllP, Int.toNat_natCast, ints_len, decide_eq_true_eq, decide_eq_false_iff_not, beq_eq_false_iff_ne, beq_iff_eq, bne_iff_ne, bne_eq_false_iff_eq, Bool.not_eq_true', Bool.not_eq_false', Int.not_lt, Int.not_le, gt_iff_lt, ge_iff_le, ne_eq, and_true, true_and, unI_ints, Nat.zero_add, List.length_set, Nat.le_refl, hf_raw])
    all_goals (repeat' (first | with_reducible assumption | with_reducible rfl | omega | with_reducible exact ints_get (by omega) | with_reducible apply And.intro | unfold inInt | with_reducible exact isInts_ints _))) (Ends.cfg rfl h))
theorem symN_A_done {n : Nat} {xs : List Int} {a m b i j : Int} {Q : V → Aev.Rows → Prop} (h1 : j ≤ i) (h : Ends c0 2 (HAs n (ints xs) TN i a) Q) : Ends c0 2 (HA n xs TN a m b i j) Q :=
  Ends.cfg rfl (Ends.turn (c := cS) cS_ok (gds [(33,false)]) (atLoop 3) 300 [0, 1] [0, 10, 13] (ps := [decide (i < j) = false]) (by kernel_rfl) (by
    (try simp only [AllP, Int.toNat_natCast, ints_len, decide_eq_true_eq, decide_eq_false_iff_not, beq_eq_false_iff_ne, beq_iff_eq, bne_iff_ne, bne_eq_false_iff_eq, Bool.not_eq_true', Bool.not_eq_false', Int.not_lt, Int.not_le, gt_iff_lt, ge_iff_le, ne_eq, and_true, true_and, unI_ints, Nat.zero_add, List.length_set, Nat.le_refl, hf_raw])
    all_goals (repeat' (first | with_reducible assumption | with_reducible rfl | omega | with_reducible exact ints_get (by omega) | with_reducible apply And.intro | unfold inInt | with_reducible exact isInts_ints _))) (Ends.cfg rfl h))
theorem symN_A_swap {n : Nat} {xs : List Int} {i k : Int} {Q : V → Aev.Rows → Prop} (hn : n = xs.length) (hn2 : xs.length ≤ 1073741824) (h0 : inInt (i - 1)) (h1 : k < i - 1) (p0 : 0 ≤ k) (p1 : k + 1 < xs.length) (h : Ends c0 2 (HAs n (((ints xs).set (0 + k.toNat) (.int .i64 (xs.getD (0 + (k + 1).toNat) 0))).set (0 + (k + 1).toNat) (.int .i64 (xs.getD (0 + k.toNat) 0))) TN i (k + 1)) Q) : Ends c0 2 (HAs n (ints xs) TN i k) Q :=
  Ends.cfg rfl (Ends.turn (c := cS) cS_ok (gdr [(58,true)] [] [(0, el xs)]) (atLoop 3) 300 [0, 1] [0, 10, 13] (ps := [inInt (i - (1 : Int)), decide (k < i - (1 : Int)) = true, inInt (k + (1 : Int)), inInt (k + (1 : Int)), nat_lit 1 = nat_lit 1 ∧ (0 : Int) ≤ k + (1 : Int) ∧ k + (1 : Int) < (↑n : Int), nat_lit 1 = nat_lit 1 ∧   (ints xs)[nat_lit 0 + Int.toNat (k + (1 : Int))]? =     some (D.int IntKind.i64 (List.getD xs (nat_lit 0 + Int.toNat (k + (1 : Int))) (0 : Int))), nat_lit 1 = nat_lit 1 ∧ (0 : Int) ≤ k ∧ k < (↑n : Int), nat_lit 1 = nat_lit 1 ∧   (ints xs)[nat_lit 0 + Int.toNat k]? = some (D.int IntKind.i64 (List.getD xs (nat_lit 0 + Int.toNat k) (0 : Int))), nat_lit 1 = nat_lit 1 ∧ (0 : Int) ≤ k ∧ k < (↑n : Int), nat_lit 1 = nat_lit 1 ∧ nat_lit 0 < nat_lit 1 ∧ true = true, nat_lit 0 + Int.toNat k < List.length (ints xs), nat_lit 1 = nat_lit 1 ∧ nat_lit 0 = nat_lit 0 ∧ nat_lit 1 = nat_lit 1 ∧ true = true, nat_lit 1 = nat_lit 1 ∧ (0 : Int) ≤ k + (1 : Int) ∧ k + (1 : Int) < (↑n : Int), nat_lit 1 = nat_lit 1 ∧ nat_lit 0 < nat_lit 1 ∧ true = true, nat_lit 0 + Int.toNat (k + (1 : Int)) <   List.length     (List.set (ints xs) (nat_lit 0 + Int.toNat k)       (mkElem         (Ty.agg           {             desc :=               TypeInfo.desc                 { desc := TypeDesc.int IntKind.i64, str := "int", size := nat_lit 1, bytes := nat_lit 8,                   hasPointers := false, align := nat_lit 8, fieldAlign := nat_lit 8,                   zero := some (Value.int IntKind.i64 (0 : Int)), comparable := true, methods := #[] },             size := nat_lit 1, bytes := nat_lit 8, zero := Value.int IntKind.i64 (0 : Int) })         [Prod.snd (nat_lit 0, el xs) (nat_lit 0 + Int.toNat (k + (1 : Int)))])), nat_lit 1 = nat_lit 1 ∧ nat_lit 0 = nat_lit 0 ∧ nat_lit 1 = nat_lit 1 ∧ true = true, inInt (k + (1 : Int))]) (by kernel_rfl) (by
    (try simp only [AllP, Int.toNat_natCast, ints_len, decide_eq_true_eq, decide_eq_false_iff_not, beq_eq_false_iff_ne, beq_iff_eq, bne_iff_ne, bne_eq_false_iff_eq, Bool.not_eq_true', Bool.not_eq_false', Int.not_lt, Int.not_le, gt_iff_lt, ge_iff_le, ne_eq, and_true, true_and, unI_ints, Nat.zero_add, List.length_set, Nat.le_refl, hf_raw])
    all_goals (repeat' (first | with_reducible assumption | with_reducible rfl | omega | with_reducible exact ints_get (by omega) | with_reducible apply And.intro | unfold inInt | with_reducible exact isInts_ints _))) (Ends.cfg rfl h))
theorem symN_A_end {n : Nat} {xs : List Int} {i k : Int} {Q : V → Aev.Rows → Prop} (h0 : inInt (i - 1)) (h1 : i - 1 ≤ k) (h : Q (.tup []) (RW xs :: TN)) : Ends c0 2 (HAs n (ints xs) TN i k) Q :=
  Ends.cfg rfl (Ends.fin (c := cS) cS_ok (gds [(58,false)]) 300 (ps := [inInt (i - (1 : Int)), decide (k < i - (1 : Int)) = false]) (by kernel_rfl) (by
    (try simp only [AllP, Int.toNat_natCast, ints_len, decide_eq_true_eq, decide_eq_false_iff_not, beq_eq_false_iff_ne, beq_iff_eq, bne_iff_ne, bne_eq_false_iff_eq, Bool.not_eq_true', Bool.not_eq_false', Int.not_lt, Int.not_le, gt_iff_lt, ge_iff_le, ne_eq, and_true, true_and, unI_ints, Nat.zero_add, List.length_set, Nat.le_refl, hf_raw])
    all_goals (repeat' (first | with_reducible assumption | with_reducible rfl | omega | with_reducible exact ints_get (by omega) | with_reducible apply And.intro | unfold inInt | with_reducible exact isInts_ints _))) h)
theorem symN_B_ge {n : Nat} {xs : List Int} {a m b i j : Int} {Q : V → Aev.Rows → Prop} (hn : n = xs.length) (h1 : i < j) (h2 : inInt (i + j)) (p0 : 0 ≤ m) (p1 : m < xs.length)(q0 : 0 ≤ hf (i + j)) (q1 : hf (i + j) < xs.length) (hc : 0 ≤ cmpI (xs.getD (m).toNat 0) (xs.getD (hf (i + j)).toNat 0)) (h3 : inInt (hf (i + j) + 1)) (h : Ends c0 2 (HB n xs TN a m b (hf (i + j) + 1) j) Q) : Ends c0 2 (HB n xs TN a m b i j) Q :=
  Ends.cfg rfl (Ends.turn (c := cS) cS_ok (gdr [(85,true),(103,true)] [] [(0, el xs)]) (atLoop 3) 300 [0, 1] [0, 1, 2, 3, 4, 14, 15] (ps := [decide (i < j) = true, inInt (i + j), nat_lit 1 = nat_lit 1 ∧ (0 : Int) ≤ m ∧ m < (↑n : Int), nat_lit 1 = nat_lit 1 ∧   (ints xs)[nat_lit 0 + Int.toNat m]? = some (D.int IntKind.i64 (List.getD xs (nat_lit 0 + Int.toNat m) (0 : Int))), nat_lit 1 = nat_lit 1 ∧   (0 : Int) ≤ IntKind.wrap IntKind.i64 (Int.fdiv (IntKind.wrap IntKind.u64 (i + j)) ((2 : Int) ^ nat_lit 1)) ∧     IntKind.wrap IntKind.i64 (Int.fdiv (IntKind.wrap IntKind.u64 (i + j)) ((2 : Int) ^ nat_lit 1)) < (↑n : Int), nat_lit 1 = nat_lit 1 ∧   (ints         xs)[nat_lit 0 +         Int.toNat (IntKind.wrap IntKind.i64 (Int.fdiv (IntKind.wrap IntKind.u64 (i + j)) ((2 : Int) ^ nat_lit 1)))]? =     some       (D.int IntKind.i64         (List.getD xs           (nat_lit 0 +             Int.toNat (IntKind.wrap IntKind.i64 (Int.fdiv (IntKind.wrap IntKind.u64 (i + j)) ((2 : Int) ^ nat_lit 1))))           (0 : Int))), (!decide       (cmpI (List.getD xs (nat_lit 0 + Int.toNat m) (0 : Int))           (List.getD xs             (nat_lit 0 +               Int.toNat                 (IntKind.wrap IntKind.i64 (Int.fdiv (IntKind.wrap IntKind.u64 (i + j)) ((2 : Int) ^ nat_lit 1))))             (0 : Int)) <         (0 : Int))) =   true, inInt (IntKind.wrap IntKind.i64 (Int.fdiv (IntKind.wrap IntKind.u64 (i + j)) ((2 : Int) ^ nat_lit 1)) + (1 : Int))]) (by kernel_rfl) (by
    (try simp only [AllP, Int.toNat_natCast, ints_len, decide_eq_true_eq, decide_eq_false_iff_not, beq_eq_false_iff_ne, beq_iff_eq, bne_iff_ne, bne_eq_false_iff_eq, Bool.not_eq_true', Bool.not_eq_false', Int.not_lt, Int.not_le, gt_iff_lt, ge_iff_le, ne_eq, and_true, true_and, unI_ints, Nat.zero_add, List.length_set, Nat.le_refl, hf_raw])
    all_goals (repeat' (first | with_reducible assumption | with_reducible rfl | omega | with_reducible exact ints_get (by omega) | with_reducible apply And.intro | unfold inInt | with_reducible exact isInts_ints _))) (Ends.cfg rfl h))
theorem symN_B_lt {n : Nat} {xs : List Int} {a m b i j : Int} {Q : V → Aev.Rows → Prop} (hn : n = xs.length) (h1 : i < j) (h2 : inInt (i + j)) (p0 : 0 ≤ m) (p1 : m < xs.length)(q0 : 0 ≤ hf (i + j)) (q1 : hf (i + j) < xs.length) (hc : cmpI (xs.getD (m).toNat 0) (xs.getD (hf (i + j)).toNat 0) < 0) (h : Ends c0 2 (HB n xs TN a m b i (hf (i + j))) Q) : Ends c0 2 (HB n xs TN a m b i j) Q :=
  Ends.cfg rfl (Ends.turn (c := cS) cS_ok (gdr [(85,true),(103,false)] [] [(0, el xs)]) (atLoop 3) 300 [0, 1] [0, 1, 2, 3, 4, 14, 15] (ps := [decide (i < j) = true, inInt (i + j), nat_lit 1 = nat_lit 1 ∧ (0 : Int) ≤ m ∧ m < (↑n : Int), nat_lit 1 = nat_lit 1 ∧   (ints xs)[nat_lit 0 + Int.toNat m]? = some (D.int IntKind.i64 (List.getD xs (nat_lit 0 + Int.toNat m) (0 : Int))), nat_lit 1 = nat_lit 1 ∧   (0 : Int) ≤ IntKind.wrap IntKind.i64 (Int.fdiv (IntKind.wrap IntKind.u64 (i + j)) ((2 : Int) ^ nat_lit 1)) ∧     IntKind.wrap IntKind.i64 (Int.fdiv (IntKind.wrap IntKind.u64 (i + j)) ((2 : Int) ^ nat_lit 1)) < (↑n : Int), nat_lit 1 = nat_lit 1 ∧   (ints         xs)[nat_lit 0 +         Int.toNat (IntKind.wrap IntKind.i64 (Int.fdiv (IntKind.wrap IntKind.u64 (i + j)) ((2 : Int) ^ nat_lit 1)))]? =     some       (D.int IntKind.i64         (List.getD xs           (nat_lit 0 +             Int.toNat (IntKind.wrap IntKind.i64 (Int.fdiv (IntKind.wrap IntKind.u64 (i + j)) ((2 : Int) ^ nat_lit 1))))           (0 : Int))), (!decide       (cmpI (List.getD xs (nat_lit 0 + Int.toNat m) (0 : Int))           (List.getD xs             (nat_lit 0 +               Int.toNat                 (IntKind.wrap IntKind.i64 (Int.fdiv (IntKind.wrap IntKind.u64 (i + j)) ((2 : Int) ^ nat_lit 1))))             (0 : Int)) <         (0 : Int))) =   false]) (by kernel_rfl) (by
    (try simp only [AllP, Int.toNat_natCast, ints_len, decide_eq_true_eq, decide_eq_false_iff_not, beq_eq_false_iff_ne, beq_iff_eq, bne_iff_ne, bne_eq_false_iff_eq, Bool.not_eq_true', Bool.not_eq_false', Int.not_lt, Int.not_le, gt_iff_lt, ge_iff_le, ne_eq, and_true, true_and, unI_ints, Nat.zero_add, List.length_set, Nat.le_refl, hf_raw])
    all_goals (repeat' (first | with_reducible assumption | with_reducible rfl | omega | with_reducible exact ints_get (by omega) | with_reducible apply And.intro | unfold inInt | with_reducible exact isInts_ints _))) (Ends.cfg rfl h))
theorem symN_B_done {n : Nat} {xs : List Int} {a m b i j : Int} {Q : V → Aev.Rows → Prop} (h1 : j ≤ i) (h : Ends c0 2 (HBs n (ints xs) TN i m) Q) : Ends c0 2 (HB n xs TN a m b i j) Q :=
  Ends.cfg rfl (Ends.turn (c := cS) cS_ok (gds [(85,false)]) (atLoop 3) 300 [0, 1] [0, 14, 17] (ps := [decide (i < j) = false]) (by kernel_rfl) (by
    (try simp only [AllP, Int.toNat_natCast, ints_len, decide_eq_true_eq, decide_eq_false_iff_not, beq_eq_false_iff_ne, beq_iff_eq, bne_iff_ne, bne_eq_false_iff_eq, Bool.not_eq_true', Bool.not_eq_false', Int.not_lt, Int.not_le, gt_iff_lt, ge_iff_le, ne_eq, and_true, true_and, unI_ints, Nat.zero_add, List.length_set, Nat.le_refl, hf_raw])
    all_goals (repeat' (first | with_reducible assumption | with_reducible rfl | omega | with_reducible exact ints_get (by omega) | with_reducible apply And.intro | unfold inInt | with_reducible exact isInts_ints _))) (Ends.cfg rfl h))
theorem symN_B_swap {n : Nat} {xs : List Int} {i k : Int} {Q : V → Aev.Rows → Prop} (hn : n = xs.length) (hn2 : xs.length ≤ 1073741824) (h1 : i < k) (p0 : 0 ≤ i) (p1 : k < xs.length) (h : Ends c0 2 (HBs n (((ints xs).set (0 + k.toNat) (.int .i64 (xs.getD (0 + (k - 1).toNat) 0))).set (0 + (k - 1).toNat) (.int .i64 (xs.getD (0 + k.toNat) 0))) TN i (k - 1)) Q) : Ends c0 2 (HBs n (ints xs) TN i k) Q :=
  Ends.cfg rfl (Ends.turn (c := cS) cS_ok (gdr [(110,true)] [] [(0, el xs)]) (atLoop 3) 300 [0, 1] [0, 14, 17] (ps := [decide (k > i) = true, inInt (k - (1 : Int)), inInt (k - (1 : Int)), nat_lit 1 = nat_lit 1 ∧ (0 : Int) ≤ k - (1 : Int) ∧ k - (1 : Int) < (↑n : Int), nat_lit 1 = nat_lit 1 ∧   (ints xs)[nat_lit 0 + Int.toNat (k - (1 : Int))]? =     some (D.int IntKind.i64 (List.getD xs (nat_lit 0 + Int.toNat (k - (1 : Int))) (0 : Int))), nat_lit 1 = nat_lit 1 ∧ (0 : Int) ≤ k ∧ k < (↑n : Int), nat_lit 1 = nat_lit 1 ∧   (ints xs)[nat_lit 0 + Int.toNat k]? = some (D.int IntKind.i64 (List.getD xs (nat_lit 0 + Int.toNat k) (0 : Int))), nat_lit 1 = nat_lit 1 ∧ (0 : Int) ≤ k ∧ k < (↑n : Int), nat_lit 1 = nat_lit 1 ∧ nat_lit 0 < nat_lit 1 ∧ true = true, nat_lit 0 + Int.toNat k < List.length (ints xs), nat_lit 1 = nat_lit 1 ∧ nat_lit 0 = nat_lit 0 ∧ nat_lit 1 = nat_lit 1 ∧ true = true, nat_lit 1 = nat_lit 1 ∧ (0 : Int) ≤ k - (1 : Int) ∧ k - (1 : Int) < (↑n : Int), nat_lit 1 = nat_lit 1 ∧ nat_lit 0 < nat_lit 1 ∧ true = true, nat_lit 0 + Int.toNat (k - (1 : Int)) <   List.length     (List.set (ints xs) (nat_lit 0 + Int.toNat k)       (mkElem         (Ty.agg           {             desc :=               TypeInfo.desc                 { desc := TypeDesc.int IntKind.i64, str := "int", size := nat_lit 1, bytes := nat_lit 8,                   hasPointers := false, align := nat_lit 8, fieldAlign := nat_lit 8,                   zero := some (Value.int IntKind.i64 (0 : Int)), comparable := true, methods := #[] },             size := nat_lit 1, bytes := nat_lit 8, zero := Value.int IntKind.i64 (0 : Int) })         [Prod.snd (nat_lit 0, el xs) (nat_lit 0 + Int.toNat (k - (1 : Int)))])), nat_lit 1 = nat_lit 1 ∧ nat_lit 0 = nat_lit 0 ∧ nat_lit 1 = nat_lit 1 ∧ true = true, inInt (k - (1 : Int))]) (by kernel_rfl) (by
    (try simp only [AllP, Int.toNat_natCast, ints_len, decide_eq_true_eq, decide_eq_false_iff_not, beq_eq_false_iff_ne, beq_iff_eq, bne_iff_ne, bne_eq_false_iff_eq, Bool.not_eq_true', Bool.not_eq_false', Int.not_lt, Int.not_le, gt_iff_lt, ge_iff_le, ne_eq, and_true, true_and, unI_ints, Nat.zero_add, List.length_set, Nat.le_refl, hf_raw])
    all_goals (repeat' (first | with_reducible assumption | with_reducible rfl | omega | with_reducible exact ints_get (by omega) | with_reducible apply And.intro | unfold inInt | with_reducible exact isInts_ints _))) (Ends.cfg rfl h))
theorem symN_B_end {n : Nat} {xs : List Int} {i k : Int} {Q : V → Aev.Rows → Prop} (h1 : k ≤ i) (h : Q (.tup []) (RW xs :: TN)) : Ends c0 2 (HBs n (ints xs) TN i k) Q :=
  Ends.cfg rfl (Ends.fin (c := cS) cS_ok (gds [(110,false)]) 300 (ps := [decide (k > i) = false]) (by kernel_rfl) (by
    (try simp only [AllP, Int.toNat_natCast, ints_len, decide_eq_true_eq, decide_eq_false_iff_not, beq_eq_false_iff_ne, beq_iff_eq, bne_iff_ne, bne_eq_false_iff_eq, Bool.not_eq_true', Bool.not_eq_false', Int.not_lt, Int.not_le, gt_iff_lt, ge_iff_le, ne_eq, and_true, true_and, unI_ints, Nat.zero_add, List.length_set, Nat.le_refl, hf_raw])
    all_goals (repeat' (first | with_reducible assumption | with_reducible rfl | omega | with_reducible exact ints_get (by omega) | with_reducible apply And.intro | unfold inInt | with_reducible exact isInts_ints _))) h)
end Go.Aev.M33
end
/- M33StbDefs -/
section
namespace Go.Aev.M33
set_option maxRecDepth 1000000
set_option linter.unusedVariables false
noncomputable def s74 (xs : List Int) (T : Aev.Rows) (n : Int) : AS := start cS 74 [SL 0 xs, I n, CC] (RW xs :: T)
abbrev E6 (w : Nat) (n bs a b : Int) : List (Nat × V) := [(0, .sl 0 1 0 w w false), (1, I n), (2, CC), (6, I bs), (7, I a), (8, I b)]
noncomputable def tdS1 : List AItem := (nextOf (sTo cS {} (atLoop 2) 300 (s74 [0] TN 0))).fr.todo
noncomputable def HS1 (w : Nat) (xs : List Int) (T : Aev.Rows) (n bs a b : Int) : AS := hd 74 tdS1 63 (E6 w n bs a b) (RW xs :: T)
noncomputable def stS2 : AS := nextOf (sTo cS (gds [(13,false)]) (atOp 5 3) 300 (HS1 1 [0] TN 0 0 0 0))
noncomputable def tdS2 : List AItem := (nextOf (sTo cS {} (atLoop 1) 300 (afterS stS2 [0, 1] (RW [0] :: TN)))).fr.todo
noncomputable def HS2 (w : Nat) (xs : List Int) (T : Aev.Rows) (n bs : Int) : AS := hd 74 tdS2 63 [(0, .sl 0 1 0 w w false), (1, I n), (2, CC), (6, I bs)] (RW xs :: T)
noncomputable def tdS3 : List AItem := (nextOf (sTo cS (gds [(30,true)]) (atLoop 5) 300 (HS2 1 [0] TN 0 0))).fr.todo
noncomputable def HS3 (w : Nat) (xs : List Int) (T : Aev.Rows) (n bs a b : Int) : AS := hd 74 tdS3 63 (E6 w n bs a b) (RW xs :: T)
end Go.Aev.M33
end
/- M33StbK -/
section
namespace Go.Aev.M33
set_option maxRecDepth 1000000
set_option linter.unusedSimpArgs false
set_option linter.unusedVariables false
theorem stbK_go {cn : List Int} {xs : List Int} {n : Int} {Q : V → Aev.Rows → Prop}  (h : Ends c0 3 (HS1 xs.length xs (TK cn) n 20 0 20) Q) : Ends c0 3 (s74 xs (TK cn) n) Q :=
  Ends.cfg rfl (Ends.turn (c := cS) cS_ok (gds []) (atLoop 2) 300 [0, 1, 2] [0, 1, 2, 6, 7, 8] (ps := []) (by kernel_rfl) (by
    (try simp only [AllP, Int.toNat_natCast, ints_len, decide_eq_true_eq, decide_eq_false_iff_not, beq_eq_false_iff_ne, beq_iff_eq, bne_iff_ne, bne_eq_false_iff_eq, Bool.not_eq_true', Bool.not_eq_false', Int.not_lt, Int.not_le, gt_iff_lt, ge_iff_le, ne_eq, and_true, true_and, unI_ints, Nat.zero_add, List.length_set, Nat.le_refl])
    all_goals (repeat' (first | with_reducible assumption | with_reducible rfl | omega | with_reducible exact ints_get (by omega) | with_reducible apply And.intro | unfold inInt | with_reducible exact isInts_ints _))) (Ends.cfg rfl h))
theorem stbK_blk {cn : List Int} {xs : List Int} {n bs a b : Int} {P : List Int → Prop} {Q : V → Aev.Rows → Prop} (h1 : b ≤ n) (h2 : inInt (b + bs)) (hd : SortDoes 113 3 [I a, I b] (TK cn) (xs) (P)) (h : ∀ xs' : List Int, xs'.length = (xs).length → (P) xs' → Ends c0 3 (HS1 xs.length xs' (TK cn) n bs b (b + bs)) Q) : Ends c0 3 (HS1 xs.length xs (TK cn) n bs a b) Q :=
  Ends.cfg rfl (Ends.to (c := cS) cS_ok (gds [(13,true)]) (atOp 5 3) 300 (s' := (nextOf (sTo cS (gds [(13,true)]) (atOp 5 3) 300 (HS1 xs.length xs (TK cn) n bs a b)))) (ps := [decide (b ≤ n) = true]) (by kernel_rfl) (by
    (try simp only [AllP, Int.toNat_natCast, ints_len, decide_eq_true_eq, decide_eq_false_iff_not, beq_eq_false_iff_ne, beq_iff_eq, bne_iff_ne, bne_eq_false_iff_eq, Bool.not_eq_true', Bool.not_eq_false', Int.not_lt, Int.not_le, gt_iff_lt, ge_iff_le, ne_eq, and_true, true_and, unI_ints, Nat.zero_add, List.length_set, Nat.le_refl])
    all_goals (repeat' (first | with_reducible assumption | with_reducible rfl | omega | with_reducible exact ints_get (by omega) | with_reducible apply And.intro | unfold inInt | with_reducible exact isInts_ints _)))
    (Ends.callS (args := [I a, I b]) (T := (TK cn)) (xs := xs) (rs := [0, 1, 2]) cS_ok rfl (by kernel_rfl) hd (fun xs' => by kernel_rfl) fun xs' hl' hp' =>
    Ends.turn (c := cS) cS_ok (gds []) (atLoop 2) 300 [0, 1, 2] [0, 1, 2, 6, 7, 8] (ps := [inInt (b + bs)]) (by kernel_rfl) (by
    (try simp only [AllP, Int.toNat_natCast, ints_len, decide_eq_true_eq, decide_eq_false_iff_not, beq_eq_false_iff_ne, beq_iff_eq, bne_iff_ne, bne_eq_false_iff_eq, Bool.not_eq_true', Bool.not_eq_false', Int.not_lt, Int.not_le, gt_iff_lt, ge_iff_le, ne_eq, and_true, true_and, unI_ints, Nat.zero_add, List.length_set, Nat.le_refl])
    all_goals (repeat' (first | with_reducible assumption | with_reducible rfl | omega | with_reducible exact ints_get (by omega) | with_reducible apply And.intro | unfold inInt | with_reducible exact isInts_ints _))) (Ends.cfg rfl (h xs' hl' hp'))))
theorem stbK_last {cn : List Int} {xs : List Int} {n bs a b : Int} {P : List Int → Prop} {Q : V → Aev.Rows → Prop} (h1 : n < b) (hd : SortDoes 113 3 [I a, I n] (TK cn) (xs) (P)) (h : ∀ xs' : List Int, xs'.length = (xs).length → (P) xs' → Ends c0 3 (HS2 xs.length xs' (TK cn) n bs) Q) : Ends c0 3 (HS1 xs.length xs (TK cn) n bs a b) Q :=
  Ends.cfg rfl (Ends.to (c := cS) cS_ok (gds [(13,false)]) (atOp 5 3) 300 (s' := (nextOf (sTo cS (gds [(13,false)]) (atOp 5 3) 300 (HS1 xs.length xs (TK cn) n bs a b)))) (ps := [decide (b ≤ n) = false]) (by kernel_rfl) (by
    (try simp only [AllP, Int.toNat_natCast, ints_len, decide_eq_true_eq, decide_eq_false_iff_not, beq_eq_false_iff_ne, beq_iff_eq, bne_iff_ne, bne_eq_false_iff_eq, Bool.not_eq_true', Bool.not_eq_false', Int.not_lt, Int.not_le, gt_iff_lt, ge_iff_le, ne_eq, and_true, true_and, unI_ints, Nat.zero_add, List.length_set, Nat.le_refl])
    all_goals (repeat' (first | with_reducible assumption | with_reducible rfl | omega | with_reducible exact ints_get (by omega) | with_reducible apply And.intro | unfold inInt | with_reducible exact isInts_ints _)))
    (Ends.callS (args := [I a, I n]) (T := (TK cn)) (xs := xs) (rs := [0, 1, 2]) cS_ok rfl (by kernel_rfl) hd (fun xs' => by kernel_rfl) fun xs' hl' hp' =>
    Ends.turn (c := cS) cS_ok (gds []) (atLoop 1) 300 [0, 1, 2] [0, 1, 2, 6] (ps := []) (by kernel_rfl) (by
    (try simp only [AllP, Int.toNat_natCast, ints_len, decide_eq_true_eq, decide_eq_false_iff_not, beq_eq_false_iff_ne, beq_iff_eq, bne_iff_ne, bne_eq_false_iff_eq, Bool.not_eq_true', Bool.not_eq_false', Int.not_lt, Int.not_le, gt_iff_lt, ge_iff_le, ne_eq, and_true, true_and, unI_ints, Nat.zero_add, List.length_set, Nat.le_refl])
    all_goals (repeat' (first | with_reducible assumption | with_reducible rfl | omega | with_reducible exact ints_get (by omega) | with_reducible apply And.intro | unfold inInt | with_reducible exact isInts_ints _))) (Ends.cfg rfl (h xs' hl' hp'))))
theorem stbK_in {cn : List Int} {xs : List Int} {n bs : Int} {Q : V → Aev.Rows → Prop} (h1 : bs < n) (h2 : inInt (2 * bs)) (h : Ends c0 3 (HS3 xs.length xs (TK cn) n bs 0 (2 * bs)) Q) : Ends c0 3 (HS2 xs.length xs (TK cn) n bs) Q :=
  Ends.cfg rfl (Ends.turn (c := cS) cS_ok (gds [(30,true)]) (atLoop 5) 300 [0, 1, 2] [0, 1, 2, 6, 7, 8] (ps := [decide (bs < n) = true, inInt ((2 : Int) * bs)]) (by kernel_rfl) (by
    (try simp only [AllP, Int.toNat_natCast, ints_len, decide_eq_true_eq, decide_eq_false_iff_not, beq_eq_false_iff_ne, beq_iff_eq, bne_iff_ne, bne_eq_false_iff_eq, Bool.not_eq_true', Bool.not_eq_false', Int.not_lt, Int.not_le, gt_iff_lt, ge_iff_le, ne_eq, and_true, true_and, unI_ints, Nat.zero_add, List.length_set, Nat.le_refl])
    all_goals (repeat' (first | with_reducible assumption | with_reducible rfl | omega | with_reducible exact ints_get (by omega) | with_reducible apply And.intro | unfold inInt | with_reducible exact isInts_ints _))) (Ends.cfg rfl h))
theorem stbK_end {cn : List Int} {xs : List Int} {n bs : Int} {Q : V → Aev.Rows → Prop} (h1 : n ≤ bs) (h : Q (.tup []) (RW xs :: (TK cn))) : Ends c0 3 (HS2 xs.length xs (TK cn) n bs) Q :=
  Ends.cfg rfl (Ends.fin (c := cS) cS_ok (gds [(30,false)]) 300 (ps := [decide (bs < n) = false]) (by kernel_rfl) (by
    (try simp only [AllP, Int.toNat_natCast, ints_len, decide_eq_true_eq, decide_eq_false_iff_not, beq_eq_false_iff_ne, beq_iff_eq, bne_iff_ne, bne_eq_false_iff_eq, Bool.not_eq_true', Bool.not_eq_false', Int.not_lt, Int.not_le, gt_iff_lt, ge_iff_le, ne_eq, and_true, true_and, unI_ints, Nat.zero_add, List.length_set, Nat.le_refl])
    all_goals (repeat' (first | with_reducible assumption | with_reducible rfl | omega | with_reducible exact ints_get (by omega) | with_reducible apply And.intro | unfold inInt | with_reducible exact isInts_ints _))) h)
theorem stbK_mrg {cn : List Int} {xs : List Int} {n bs a b : Int} {P : List Int → Prop} {Q : V → Aev.Rows → Prop} (h1 : b ≤ n) (h2 : inInt (a + bs)) (h3 : inInt (2 * bs)) (h4 : inInt (b + 2 * bs)) (hd : SortDoes 114 3 [I a, I (a + bs), I b] (TK cn) (xs) (P)) (h : ∀ xs' : List Int, xs'.length = (xs).length → (P) xs' → Ends c0 3 (HS3 xs.length xs' (TK cn) n bs b (b + 2 * bs)) Q) : Ends c0 3 (HS3 xs.length xs (TK cn) n bs a b) Q :=
  Ends.cfg rfl (Ends.to (c := cS) cS_ok (gds [(35,true)]) (atOp 8 6) 300 (s' := (nextOf (sTo cS (gds [(35,true)]) (atOp 8 6) 300 (HS3 xs.length xs (TK cn) n bs a b)))) (ps := [decide (b ≤ n) = true, inInt (a + bs)]) (by kernel_rfl) (by
    (try simp only [AllP, Int.toNat_natCast, ints_len, decide_eq_true_eq, decide_eq_false_iff_not, beq_eq_false_iff_ne, beq_iff_eq, bne_iff_ne, bne_eq_false_iff_eq, Bool.not_eq_true', Bool.not_eq_false', Int.not_lt, Int.not_le, gt_iff_lt, ge_iff_le, ne_eq, and_true, true_and, unI_ints, Nat.zero_add, List.length_set, Nat.le_refl])
    all_goals (repeat' (first | with_reducible assumption | with_reducible rfl | omega | with_reducible exact ints_get (by omega) | with_reducible apply And.intro | unfold inInt | with_reducible exact isInts_ints _)))
    (Ends.callS (args := [I a, I (a + bs), I b]) (T := (TK cn)) (xs := xs) (rs := [0, 1, 2]) cS_ok rfl (by kernel_rfl) hd (fun xs' => by kernel_rfl) fun xs' hl' hp' =>
    Ends.turn (c := cS) cS_ok (gds []) (atLoop 5) 300 [0, 1, 2] [0, 1, 2, 6, 7, 8] (ps := [inInt ((2 : Int) * bs), inInt (b + (2 : Int) * bs)]) (by kernel_rfl) (by
    (try simp only [AllP, Int.toNat_natCast, ints_len, decide_eq_true_eq, decide_eq_false_iff_not, beq_eq_false_iff_ne, beq_iff_eq, bne_iff_ne, bne_eq_false_iff_eq, Bool.not_eq_true', Bool.not_eq_false', Int.not_lt, Int.not_le, gt_iff_lt, ge_iff_le, ne_eq, and_true, true_and, unI_ints, Nat.zero_add, List.length_set, Nat.le_refl])
    all_goals (repeat' (first | with_reducible assumption | with_reducible rfl | omega | with_reducible exact ints_get (by omega) | with_reducible apply And.intro | unfold inInt | with_reducible exact isInts_ints _))) (Ends.cfg rfl (h xs' hl' hp'))))
theorem stbK_tail {cn : List Int} {xs : List Int} {n bs a b : Int} {P : List Int → Prop} {Q : V → Aev.Rows → Prop} (h1 : n < b) (h2 : inInt (a + bs)) (h3 : a + bs < n) (h4 : inInt (bs * 2)) (hd : SortDoes 114 3 [I a, I (a + bs), I n] (TK cn) (xs) (P)) (h : ∀ xs' : List Int, xs'.length = (xs).length → (P) xs' → Ends c0 3 (HS2 xs.length xs' (TK cn) n (bs * 2)) Q) : Ends c0 3 (HS3 xs.length xs (TK cn) n bs a b) Q :=
  Ends.cfg rfl (Ends.to (c := cS) cS_ok (gds [(35,false),(54,true)]) (atOp 6 4) 300 (s' := (nextOf (sTo cS (gds [(35,false),(54,true)]) (atOp 6 4) 300 (HS3 xs.length xs (TK cn) n bs a b)))) (ps := [decide (b ≤ n) = false, inInt (a + bs), decide (a + bs < n) = true]) (by kernel_rfl) (by
    (try simp only [AllP, Int.toNat_natCast, ints_len, decide_eq_true_eq, decide_eq_false_iff_not, beq_eq_false_iff_ne, beq_iff_eq, bne_iff_ne, bne_eq_false_iff_eq, Bool.not_eq_true', Bool.not_eq_false', Int.not_lt, Int.not_le, gt_iff_lt, ge_iff_le, ne_eq, and_true, true_and, unI_ints, Nat.zero_add, List.length_set, Nat.le_refl])
    all_goals (repeat' (first | with_reducible assumption | with_reducible rfl | omega | with_reducible exact ints_get (by omega) | with_reducible apply And.intro | unfold inInt | with_reducible exact isInts_ints _)))
    (Ends.callS (args := [I a, I (a + bs), I n]) (T := (TK cn)) (xs := xs) (rs := [0, 1, 2]) cS_ok rfl (by kernel_rfl) hd (fun xs' => by kernel_rfl) fun xs' hl' hp' =>
    Ends.turn (c := cS) cS_ok (gds []) (atLoop 1) 300 [0, 1, 2] [0, 1, 2, 6] (ps := [inInt (bs * (2 : Int))]) (by kernel_rfl) (by
    (try simp only [AllP, Int.toNat_natCast, ints_len, decide_eq_true_eq, decide_eq_false_iff_not, beq_eq_false_iff_ne, beq_iff_eq, bne_iff_ne, bne_eq_false_iff_eq, Bool.not_eq_true', Bool.not_eq_false', Int.not_lt, Int.not_le, gt_iff_lt, ge_iff_le, ne_eq, and_true, true_and, unI_ints, Nat.zero_add, List.length_set, Nat.le_refl])
    all_goals (repeat' (first | with_reducible assumption | with_reducible rfl | omega | with_reducible exact ints_get (by omega) | with_reducible apply And.intro | unfold inInt | with_reducible exact isInts_ints _))) (Ends.cfg rfl (h xs' hl' hp'))))
theorem stbK_none {cn : List Int} {xs : List Int} {n bs a b : Int} {Q : V → Aev.Rows → Prop} (h1 : n < b) (h2 : inInt (a + bs)) (h3 : n ≤ a + bs) (h4 : inInt (bs * 2)) (h : Ends c0 3 (HS2 xs.length xs (TK cn) n (bs * 2)) Q) : Ends c0 3 (HS3 xs.length xs (TK cn) n bs a b) Q :=
  Ends.cfg rfl (Ends.turn (c := cS) cS_ok (gds [(35,false),(54,false)]) (atLoop 1) 300 [0, 1, 2] [0, 1, 2, 6] (ps := [decide (b ≤ n) = false, inInt (a + bs), decide (a + bs < n) = false, inInt (bs * (2 : Int))]) (by kernel_rfl) (by
    (try simp only [AllP, Int.toNat_natCast, ints_len, decide_eq_true_eq, decide_eq_false_iff_not, beq_eq_false_iff_ne, beq_iff_eq, bne_iff_ne, bne_eq_false_iff_eq, Bool.not_eq_true', Bool.not_eq_false', Int.not_lt, Int.not_le, gt_iff_lt, ge_iff_le, ne_eq, and_true, true_and, unI_ints, Nat.zero_add, List.length_set, Nat.le_refl])
    all_goals (repeat' (first | with_reducible assumption | with_reducible rfl | omega | with_reducible exact ints_get (by omega) | with_reducible apply And.intro | unfold inInt | with_reducible exact isInts_ints _))) (Ends.cfg rfl h))
end Go.Aev.M33
end
/- M33StbN -/
section
namespace Go.Aev.M33
set_option maxRecDepth 1000000
set_option linter.unusedSimpArgs false
set_option linter.unusedVariables false
theorem stbN_go {xs : List Int} {n : Int} {Q : V → Aev.Rows → Prop}  (h : Ends c0 2 (HS1 xs.length xs TN n 20 0 20) Q) : Ends c0 2 (s74 xs TN n) Q :=
  Ends.cfg rfl (Ends.turn (c := cS) cS_ok (gds []) (atLoop 2) 300 [0, 1] [0, 1, 2, 6, 7, 8] (ps := []) (by kernel_rfl) (by
    (try simp only [AllP, Int.toNat_natCast, ints_len, decide_eq_true_eq, decide_eq_false_iff_not, beq_eq_false_iff_ne, beq_iff_eq, bne_iff_ne, bne_eq_false_iff_eq, Bool.not_eq_true', Bool.not_eq_false', Int.not_lt, Int.not_le, gt_iff_lt, ge_iff_le, ne_eq, and_true, true_and, unI_ints, Nat.zero_add, List.length_set, Nat.le_refl])
    all_goals (repeat' (first | with_reducible assumption | with_reducible rfl | omega | with_reducible exact ints_get (by omega) | with_reducible apply And.intro | unfold inInt | with_reducible exact isInts_ints _))) (Ends.cfg rfl h))
theorem stbN_blk {xs : List Int} {n bs a b : Int} {P : List Int → Prop} {Q : V → Aev.Rows → Prop} (h1 : b ≤ n) (h2 : inInt (b + bs)) (hd : SortDoes 113 2 [I a, I b] TN (xs) (P)) (h : ∀ xs' : List Int, xs'.length = (xs).length → (P) xs' → Ends c0 2 (HS1 xs.length xs' TN n bs b (b + bs)) Q) : Ends c0 2 (HS1 xs.length xs TN n bs a b) Q :=
  Ends.cfg rfl (Ends.to (c := cS) cS_ok (gds [(13,true)]) (atOp 5 3) 300 (s' := (nextOf (sTo cS (gds [(13,true)]) (atOp 5 3) 300 (HS1 xs.length xs TN n bs a b)))) (ps := [decide (b ≤ n) = true]) (by kernel_rfl) (by
    (try simp only [AllP, Int.toNat_natCast, ints_len, decide_eq_true_eq, decide_eq_false_iff_not, beq_eq_false_iff_ne, beq_iff_eq, bne_iff_ne, bne_eq_false_iff_eq, Bool.not_eq_true', Bool.not_eq_false', Int.not_lt, Int.not_le, gt_iff_lt, ge_iff_le, ne_eq, and_true, true_and, unI_ints, Nat.zero_add, List.length_set, Nat.le_refl])
    all_goals (repeat' (first | with_reducible assumption | with_reducible rfl | omega | with_reducible exact ints_get (by omega) | with_reducible apply And.intro | unfold inInt | with_reducible exact isInts_ints _)))
    (Ends.callS (args := [I a, I b]) (T := TN) (xs := xs) (rs := [0, 1]) cS_ok rfl (by kernel_rfl) hd (fun xs' => by kernel_rfl) fun xs' hl' hp' =>
    Ends.turn (c := cS) cS_ok (gds []) (atLoop 2) 300 [0, 1] [0, 1, 2, 6, 7, 8] (ps := [inInt (b + bs)]) (by kernel_rfl) (by
    (try simp only [AllP, Int.toNat_natCast, ints_len, decide_eq_true_eq, decide_eq_false_iff_not, beq_eq_false_iff_ne, beq_iff_eq, bne_iff_ne, bne_eq_false_iff_eq, Bool.not_eq_true', Bool.not_eq_false', Int.not_lt, Int.not_le, gt_iff_lt, ge_iff_le, ne_eq, and_true, true_and, unI_ints, Nat.zero_add, List.length_set, Nat.le_refl])
    all_goals (repeat' (first | with_reducible assumption | with_reducible rfl | omega | with_reducible exact ints_get (by omega) | with_reducible apply And.intro | unfold inInt | with_reducible exact isInts_ints _))) (Ends.cfg rfl (h xs' hl' hp'))))
theorem stbN_last {xs : List Int} {n bs a b : Int} {P : List Int → Prop} {Q : V → Aev.Rows → Prop} (h1 : n < b) (hd : SortDoes 113 2 [I a, I n] TN (xs) (P)) (h : ∀ xs' : List Int, xs'.length = (xs).length → (P) xs' → Ends c0 2 (HS2 xs.length xs' TN n bs) Q) : Ends c0 2 (HS1 xs.length xs TN n bs a b) Q :=
  Ends.cfg rfl (Ends.to (c := cS) cS_ok (gds [(13,false)]) (atOp 5 3) 300 (s' := (nextOf (sTo cS (gds [(13,false)]) (atOp 5 3) 300 (HS1 xs.length xs TN n bs a b)))) (ps := [decide (b ≤ n) = false]) (by kernel_rfl) (by
    (try simp only [AllP, Int.toNat_natCast, ints_len, decide_eq_true_eq, decide_eq_false_iff_not, beq_eq_false_iff_ne, beq_iff_eq, bne_iff_ne, bne_eq_false_iff_eq, Bool.not_eq_true', Bool.not_eq_false', Int.not_lt, Int.not_le, gt_iff_lt, ge_iff_le, ne_eq, and_true, true_and, unI_ints, Nat.zero_add, List.length_set, Nat.le_refl])
    all_goals (repeat' (first | with_reducible assumption | with_reducible rfl | omega | with_reducible exact ints_get (by omega) | with_reducible apply And.intro | unfold inInt | with_reducible exact isInts_ints _)))
    (Ends.callS (args := [I a, I n]) (T := TN) (xs := xs) (rs := [0, 1]) cS_ok rfl (by kernel_rfl) hd (fun xs' => by kernel_rfl) fun xs' hl' hp' =>
    Ends.turn (c := cS) cS_ok (gds []) (atLoop 1) 300 [0, 1] [0, 1, 2, 6] (ps := []) (by kernel_rfl) (by
    (try simp only [AllP, Int.toNat_natCast, ints_len, decide_eq_true_eq, decide_eq_false_iff_not, beq_eq_false_iff_ne, beq_iff_eq, bne_iff_ne, bne_eq_false_iff_eq, Bool.not_eq_true', Bool.not_eq_false', Int.not_lt, Int.not_le, gt_iff_lt, ge_iff_le, ne_eq, and_true, true_and, unI_ints, Nat.zero_add, List.length_set, Nat.le_refl])
    all_goals (repeat' (first | with_reducible assumption | with_reducible rfl | omega | with_reducible exact ints_get (by omega) | with_reducible apply And.intro | unfold inInt | with_reducible exact isInts_ints _))) (Ends.cfg rfl (h xs' hl' hp'))))
theorem stbN_in {xs : List Int} {n bs : Int} {Q : V → Aev.Rows → Prop} (h1 : bs < n) (h2 : inInt (2 * bs)) (h : Ends c0 2 (HS3 xs.length xs TN n bs 0 (2 * bs)) Q) : Ends c0 2 (HS2 xs.length xs TN n bs) Q :=
  Ends.cfg rfl (Ends.turn (c := cS) cS_ok (gds [(30,true)]) (atLoop 5) 300 [0, 1] [0, 1, 2, 6, 7, 8] (ps := [decide (bs < n) = true, inInt ((2 : Int) * bs)]) (by kernel_rfl) (by
    (try simp only [AllP, Int.toNat_natCast, ints_len, decide_eq_true_eq, decide_eq_false_iff_not, beq_eq_false_iff_ne, beq_iff_eq, bne_iff_ne, bne_eq_false_iff_eq, Bool.not_eq_true', Bool.not_eq_false', Int.not_lt, Int.not_le, gt_iff_lt, ge_iff_le, ne_eq, and_true, true_and, unI_ints, Nat.zero_add, List.length_set, Nat.le_refl])
    all_goals (repeat' (first | with_reducible assumption | with_reducible rfl | omega | with_reducible exact ints_get (by omega) | with_reducible apply And.intro | unfold inInt | with_reducible exact isInts_ints _))) (Ends.cfg rfl h))
theorem stbN_end {xs : List Int} {n bs : Int} {Q : V → Aev.Rows → Prop} (h1 : n ≤ bs) (h : Q (.tup []) (RW xs :: TN)) : Ends c0 2 (HS2 xs.length xs TN n bs) Q :=
  Ends.cfg rfl (Ends.fin (c := cS) cS_ok (gds [(30,false)]) 300 (ps := [decide (bs < n) = false]) (by kernel_rfl) (by
    (try simp only [AllP, Int.toNat_natCast, ints_len, decide_eq_true_eq, decide_eq_false_iff_not, beq_eq_false_iff_ne, beq_iff_eq, bne_iff_ne, bne_eq_false_iff_eq, Bool.not_eq_true', Bool.not_eq_false', Int.not_lt, Int.not_le, gt_iff_lt, ge_iff_le, ne_eq, and_true, true_and, unI_ints, Nat.zero_add, List.length_set, Nat.le_refl])
    all_goals (repeat' (first | with_reducible assumption | with_reducible rfl | omega | with_reducible exact ints_get (by omega) | with_reducible apply And.intro | unfold inInt | with_reducible exact isInts_ints _))) h)
theorem stbN_mrg {xs : List Int} {n bs a b : Int} {P : List Int → Prop} {Q : V → Aev.Rows → Prop} (h1 : b ≤ n) (h2 : inInt (a + bs)) (h3 : inInt (2 * bs)) (h4 : inInt (b + 2 * bs)) (hd : SortDoes 114 2 [I a, I (a + bs), I b] TN (xs) (P)) (h : ∀ xs' : List Int, xs'.length = (xs).length → (P) xs' → Ends c0 2 (HS3 xs.length xs' TN n bs b (b + 2 * bs)) Q) : Ends c0 2 (HS3 xs.length xs TN n bs a b) Q :=
  Ends.cfg rfl (Ends.to (c := cS) cS_ok (gds [(35,true)]) (atOp 8 6) 300 (s' := (nextOf (sTo cS (gds [(35,true)]) (atOp 8 6) 300 (HS3 xs.length xs TN n bs a b)))) (ps := [decide (b ≤ n) = true, inInt (a + bs)]) (by kernel_rfl) (by
    (try simp only [AllP, Int.toNat_natCast, ints_len, decide_eq_true_eq, decide_eq_false_iff_not, beq_eq_false_iff_ne, beq_iff_eq, bne_iff_ne, bne_eq_false_iff_eq, Bool.not_eq_true', Bool.not_eq_false', Int.not_lt, Int.not_le, gt_iff_lt, ge_iff_le, ne_eq, and_true, true_and, unI_ints, Nat.zero_add, List.length_set, Nat.le_refl])
    all_goals (repeat' (first | with_reducible assumption | with_reducible rfl | omega | with_reducible exact ints_get (by omega) | with_reducible apply And.intro | unfold inInt | with_reducible exact isInts_ints _)))
    (Ends.callS (args := [I a, I (a + bs), I b]) (T := TN) (xs := xs) (rs := [0, 1]) cS_ok rfl (by kernel_rfl) hd (fun xs' => by kernel_rfl) fun xs' hl' hp' =>
    Ends.turn (c := cS) cS_ok (gds []) (atLoop 5) 300 [0, 1] [0, 1, 2, 6, 7, 8] (ps := [inInt ((2 : Int) * bs), inInt (b + (2 : Int) * bs)]) (by kernel_rfl) (by
    (try simp only [AllP, Int.toNat_natCast, ints_len, decide_eq_true_eq, decide_eq_false_iff_not, beq_eq_false_iff_ne, beq_iff_eq, bne_iff_ne, bne_eq_false_iff_eq, Bool.not_eq_true', Bool.not_eq_false', Int.not_lt, Int.not_le, gt_iff_lt, ge_iff_le, ne_eq, and_true, true_and, unI_ints, Nat.zero_add, List.length_set, Nat.le_refl])
    all_goals (repeat' (first | with_reducible assumption | with_reducible rfl | omega | with_reducible exact ints_get (by omega) | with_reducible apply And.intro | unfold inInt | with_reducible exact isInts_ints _))) (Ends.cfg rfl (h xs' hl' hp'))))
theorem stbN_tail {xs : List Int} {n bs a b : Int} {P : List Int → Prop} {Q : V → Aev.Rows → Prop} (h1 : n < b) (h2 : inInt (a + bs)) (h3 : a + bs < n) (h4 : inInt (bs * 2)) (hd : SortDoes 114 2 [I a, I (a + bs), I n] TN (xs) (P)) (h : ∀ xs' : List Int, xs'.length = (xs).length → (P) xs' → Ends c0 2 (HS2 xs.length xs' TN n (bs * 2)) Q) : Ends c0 2 (HS3 xs.length xs TN n bs a b) Q :=
  Ends.cfg rfl (Ends.to (c := cS) cS_ok (gds [(35,false),(54,true)]) (atOp 6 4) 300 (s' := (nextOf (sTo cS (gds [(35,false),(54,true)]) (atOp 6 4) 300 (HS3 xs.length xs TN n bs a b)))) (ps := [decide (b ≤ n) = false, inInt (a + bs), decide (a + bs < n) = true]) (by kernel_rfl) (by
    (try simp only [AllP, Int.toNat_natCast, ints_len, decide_eq_true_eq, decide_eq_false_iff_not, beq_eq_false_iff_ne, beq_iff_eq, bne_iff_ne, bne_eq_false_iff_eq, Bool.not_eq_true', Bool.not_eq_false', Int.not_lt, Int.not_le, gt_iff_lt, ge_iff_le, ne_eq, and_true, true_and, unI_ints, Nat.zero_add, List.length_set, Nat.le_refl])
    all_goals (repeat' (first | with_reducible assumption | with_reducible rfl | omega | with_reducible exact ints_get (by omega) | with_reducible apply And.intro | unfold inInt | with_reducible exact isInts_ints _)))
    (Ends.callS (args := [I a, I (a + bs), I n]) (T := TN) (xs := xs) (rs := [0, 1]) cS_ok rfl (by kernel_rfl) hd (fun xs' => by kernel_rfl) fun xs' hl' hp' =>
    Ends.turn (c := cS) cS_ok (gds []) (atLoop 1) 300 [0, 1] [0, 1, 2, 6] (ps := [inInt (bs * (2 : Int))]) (by kernel_rfl) (by
    (try simp only [AllP, Int.toNat_natCast, ints_len, decide_eq_true_eq, decide_eq_false_iff_not, beq_eq_false_iff_ne, beq_iff_eq, bne_iff_ne, bne_eq_false_iff_eq, Bool.not_eq_true', Bool.not_eq_false', Int.not_lt, Int.not_le, gt_iff_lt, ge_iff_le, ne_eq, and_true, true_and, unI_ints, Nat.zero_add, List.length_set, Nat.le_refl])
    all_goals (repeat' (first | with_reducible assumption | with_reducible rfl | omega | with_reducible exact ints_get (by omega) | with_reducible apply And.intro | unfold inInt | with_reducible exact isInts_ints _))) (Ends.cfg rfl (h xs' hl' hp'))))
theorem stbN_none {xs : List Int} {n bs a b : Int} {Q : V → Aev.Rows → Prop} (h1 : n < b) (h2 : inInt (a + bs)) (h3 : n ≤ a + bs) (h4 : inInt (bs * 2)) (h : Ends c0 2 (HS2 xs.length xs TN n (bs * 2)) Q) : Ends c0 2 (HS3 xs.length xs TN n bs a b) Q :=
  Ends.cfg rfl (Ends.turn (c := cS) cS_ok (gds [(35,false),(54,false)]) (atLoop 1) 300 [0, 1] [0, 1, 2, 6] (ps := [decide (b ≤ n) = false, inInt (a + bs), decide (a + bs < n) = false, inInt (bs * (2 : Int))]) (by kernel_rfl) (by
    (try simp only [AllP, Int.toNat_natCast, ints_len, decide_eq_true_eq, decide_eq_false_iff_not, beq_eq_false_iff_ne, beq_iff_eq, bne_iff_ne, bne_eq_false_iff_eq, Bool.not_eq_true', Bool.not_eq_false', Int.not_lt, Int.not_le, gt_iff_lt, ge_iff_le, ne_eq, and_true, true_and, unI_ints, Nat.zero_add, List.length_set, Nat.le_refl])
    all_goals (repeat' (first | with_reducible assumption | with_reducible rfl | omega | with_reducible exact ints_get (by omega) | with_reducible apply And.intro | unfold inInt | with_reducible exact isInts_ints _))) (Ends.cfg rfl h))
end Go.Aev.M33
end
/- M33Ins2K -/
section
namespace Go.Aev.M33
open List
set_option maxRecDepth 1000000
set_option linter.unusedVariables false
theorem insK_inner {cn : List Int} {lo hi : Int} (h0 : 0 ≤ lo) {Q : V → Aev.Rows → Prop} : ∀ (n : Nat) (xs : List Int) (i j : Int), hi ≤ xs.length → xs.length ≤ 1073741824 → (hd : ∀ x ∈ xs, 0 ≤ x ∧ x < cn.length) → (j - lo).toNat = n → lo ≤ j → j ≤ i → lo < i → i < hi → InsI (kyK cn) xs lo hi i j →
    (∀ ys, Mv xs ys lo hi → InsO (kyK cn) ys lo hi (i + 1) → Ends c0 3 (H113o ys (TK cn) lo hi (i + 1)) Q) → Ends c0 3 (H113i xs.length (ints xs) (TK cn) lo hi i j) Q := by
  intro n
  induction n with
  | zero =>
    intro xs i j hl hn hd hm h1 h2 h3 h4 hI h
    obtain rfl : j = lo := by omega
    exact insK_bot (Int.le_refl _) (by unfold inInt; omega) (h xs (.refl _ _ _) hI.bot)
  | succ n ih =>
    intro xs i j hl hn hd hm h1 h2 h3 h4 hI h
    by_cases hc : (kyK cn) (nth xs j) < (kyK cn) (nth xs (j - 1))
    · refine insK_swap (by omega) h0 (by omega) hn (nth_all hd (by omega) (by omega)) (nth_all hd (by omega) (by omega)) (cmpI_lt.2 hc) ?_
      rw [ints_sw]
      have := ih (sw xs j (j - 1)) i (j - 1) (by rw [sw_len]; exact hl) (by rw [sw_len]; exact hn) (all_perm (sw_perm (by omega) (by omega) (by omega) (by omega)) hd) (by omega) (by omega) (by omega) h3 h4 (hI.swap h0 (by omega) h2 h4 hl hc)
        (fun ys hy ho => h ys ((Mv.sw h0 (by omega) (by omega) (by omega) (by omega) hl).trans hy) ho)
      rw [sw_len] at this
      exact this
    · exact insK_stay (by omega) h0 (by omega) hn (nth_all hd (by omega) (by omega)) (nth_all hd (by omega) (by omega)) (cmpI_ge.2 (Int.not_lt.1 hc)) (by unfold inInt; omega) (h xs (.refl _ _ _) (hI.stay (by omega) h2 (by omega)))
theorem insK_outer {cn : List Int} {lo hi : Int} (h0 : 0 ≤ lo) {Q : V → Aev.Rows → Prop} : ∀ (n : Nat) (xs : List Int) (i : Int), hi ≤ xs.length → xs.length ≤ 1073741824 → (hd : ∀ x ∈ xs, 0 ≤ x ∧ x < cn.length) → (hi - i).toNat = n → lo < i → InsO (kyK cn) xs lo hi i →
    (∀ ys, Mv xs ys lo hi → Srt (kyK cn) ys lo hi → Q (.tup []) (RW ys :: (TK cn))) → Ends c0 3 (H113o xs (TK cn) lo hi i) Q := by
  intro n
  induction n with
  | zero =>
    intro xs i hl hn hd hm h1 hO h
    exact insK_end (by omega) (h xs (.refl _ _ _) (hO.fin (by omega)))
  | succ n ih =>
    intro xs i hl hn hd hm h1 hO h
    refine insK_in (by omega) (insK_inner h0 _ xs i i hl hn hd rfl (by omega) (Int.le_refl _) h1 (by omega) (hO.inn h1 (by omega)) fun ys hy ho => ?_)
    exact ih ys (i + 1) (by rw [hy.len]; exact hl) (by rw [hy.len]; exact hn) (all_perm hy.perm hd) (by omega) (by omega) ho (fun zs hz hs => h zs (hy.trans hz) hs)
theorem insK_does {cn : List Int} {xs : List Int} {lo hi : Int} (h0 : 0 ≤ lo) (h1 : lo ≤ hi) (h2 : hi ≤ xs.length) (h3 : xs.length ≤ 1073741824) (hd : ∀ x ∈ xs, 0 ≤ x ∧ x < cn.length) (h4 : Asc xs lo hi) : SortDoes 113 3 [I lo, I hi] (TK cn) xs (fun ys => Mv xs ys lo hi ∧ Srt (kyK cn) ys lo hi) :=
  does_of (c := cS) cS_ok (by kernel_rfl) (Ends.cfg rfl (insK_go (by unfold inInt; omega) (insK_outer h0 _ xs (lo + 1) h2 h3 hd rfl (by omega) (.start h4) fun ys hy hs => ⟨ys, hy.len, ⟨hy, hs⟩, rfl, rfl⟩)))

theorem swpK_loop {cn : List Int} {xs : List Int} {a b n : Int} (ha : 0 ≤ a) (hab : a + n ≤ b) (hb : b + n ≤ xs.length) (hn : xs.length ≤ 1073741824) {Q : V → Aev.Rows → Prop} (h : ∀ ys, ys ~ xs → SwR xs ys a b n → Q (.tup []) (RW ys :: (TK cn))) : ∀ (d : Nat) (ys : List Int) (i : Int), (n - i).toNat = d → 0 ≤ i → i ≤ n → ys ~ xs → SwR xs ys a b i → Ends c0 3 (H182 ys.length (ints ys) (TK cn) a b n i) Q := by
  intro d
  induction d with
  | zero =>
    intro ys i hd h1 h2 hp hs
    obtain rfl : i = n := by omega
    exact swpK_end (Int.le_refl _) (h ys hp hs)
  | succ d ih =>
    intro ys i hd h1 h2 hp hs
    have hl := hp.length_eq
    refine swpK_turn (by omega) h1 ha (by omega) (by omega) (by omega) (by omega) ?_
    rw [ints_sw]
    have := ih (sw ys (a + i) (b + i)) (i + 1) (by omega) (by omega) (by omega) ((sw_perm (by omega) (by omega) (by omega) (by omega)).trans hp) (hs.next ha h1 (by omega) (by omega) hl)
    rw [sw_len] at this
    exact this
theorem swpK_does {cn : List Int} {xs : List Int} {a b n : Int} (ha : 0 ≤ a) (h0 : 0 ≤ n) (hab : a + n ≤ b) (hb : b + n ≤ xs.length) (hn : xs.length ≤ 1073741824) : SortDoes 182 3 [I a, I b, I n] (TK cn) xs (fun ys => ys ~ xs ∧ SwR xs ys a b n) :=
  does_of (c := cS) cS_ok (by kernel_rfl) (Ends.cfg rfl (swpK_go (swpK_loop ha hab hb hn (fun ys hp hs => ⟨ys, hp.length_eq, ⟨hp, hs⟩, rfl, rfl⟩) _ xs 0 rfl (by omega) h0 (.refl _) (.zero _ _ _))))
theorem rotK_loop {cn : List Int} {m : Int} {Q : V → Aev.Rows → Prop} : ∀ (d : Nat) (xs : List Int) (i j : Int), (i + j).toNat = d → 0 < i → 0 < j → 0 ≤ m - i → m + j ≤ xs.length → xs.length ≤ 1073741824 →
    (∀ ys, Rot xs ys (m - i) m (m + j) → Q (.tup []) (RW ys :: (TK cn))) → Ends c0 3 (H161 xs.length xs (TK cn) m i j) Q := by
  intro d
  induction d using Nat.strongRecOn with
  | _ d ih =>
    intro xs i j hd hi hj h1 h2 hn h
    rcases Int.lt_trichotomy i j with hij | hij | hij
    · refine rotK_right hij (by unfold inInt; omega) (by unfold inInt; omega) (by unfold inInt; omega) (by unfold inInt; omega) (swpK_does h1 (by omega) (by omega) (by omega) hn) fun ys hl hp => ?_
      rw [← hl]
      exact ih (i + (j - i)).toNat (by omega) ys i (j - i) rfl hi (by omega) h1 (by omega) (by omega) fun zs hz => h zs (Rot.right_step hp.1 h1 (by omega) hij hp.2 hz)
    · subst hij
      exact rotK_end rfl (by unfold inInt; omega) (swpK_does h1 (by omega) (by omega) (by omega) hn) fun ys hl hp => h ys (Rot.of_swap hp.1 h1 hp.2 (by omega))
    · refine rotK_left hij (by unfold inInt; omega) (by unfold inInt; omega) (swpK_does h1 (by omega) (by omega) (by omega) hn) fun ys hl hp => ?_
      rw [← hl]
      exact ih (i - j + j).toNat (by omega) ys (i - j) j rfl (by omega) hj (by omega) (by omega) (by omega) fun zs hz => h zs (Rot.left_step hp.1 h1 (by omega) hij hp.2 hz)
theorem rotK_does {cn : List Int} {xs : List Int} {a m b : Int} (ha : 0 ≤ a) (h1 : a < m) (h2 : m < b) (hb : b ≤ xs.length) (hn : xs.length ≤ 1073741824) : SortDoes 161 3 [I a, I m, I b] (TK cn) xs (fun ys => Rot xs ys a m b) :=
  does_of (c := cS) cS_ok (by kernel_rfl) (Ends.cfg rfl (rotK_go (by unfold inInt; omega) (by unfold inInt; omega) (rotK_loop _ xs (m - a) (b - m) rfl (by omega) (by omega) (by omega) (by omega) hn fun ys hy => by
    rw [show m - (m - a) = a by omega, show m + (b - m) = b by omega] at hy
    exact ⟨ys, hy.perm.length_eq, hy, rfl, rfl⟩)))
end Go.Aev.M33
end
/- M33SymPlain -/
section
namespace Go.Aev.M33
open List
set_option linter.unusedVariables false
/-- two sorted blocks, the left one's numbers below the right one's -/
structure SymPre (k : Int → Int) (xs : List Int) (a m b : Int) : Prop where
  l : Srt k xs a m
  r : Srt k xs m b
  x : ∀ p q, a ≤ p → p < m → m ≤ q → q < b → nth xs p < nth xs q
theorem Srt.le {k : Int → Int} {xs : List Int} {a b p q : Int} (h : Srt k xs a b) (h1 : a ≤ p) (h2 : p ≤ q) (h3 : q < b) : k (nth xs p) ≤ k (nth xs q) := by
  by_cases e : p = q
  · subst e; exact Int.le_refl _
  · have := h p q h1 (by omega) h3
    unfold lt at this; omega
theorem Srt.sub {k : Int → Int} {xs : List Int} {a b c d : Int} (h : Srt k xs a b) (h1 : a ≤ c) (h2 : d ≤ b) : Srt k xs c d := fun p q k1 k2 k3 => h p q (by omega) k2 (by omega)
theorem Srt.congr {k : Int → Int} {xs ys : List Int} {a b : Int} (h : Srt k xs a b) (he : ∀ p, a ≤ p → p < b → nth ys p = nth xs p) : Srt k ys a b := fun p q h1 h2 h3 => by
  rw [he p h1 (by omega), he q (by omega) h3]; exact h p q h1 h2 h3
theorem Srt.join {k : Int → Int} {xs : List Int} {a c b : Int} (h : Srt k xs a c) (h' : Srt k xs c b) (hx : ∀ p q, a ≤ p → p < c → c ≤ q → q < b → lt k (nth xs p) (nth xs q)) : Srt k xs a b := fun p q h1 h2 h3 => by
  by_cases hp : p < c
  · by_cases hq : q < c
    · exact h p q h1 h2 hq
    · exact hx p q h1 hp (by omega) h3
  · exact h' p q (by omega) h2 h3
theorem Rot.mv {xs ys : List Int} {s m e : Int} (h : Rot xs ys s m e) (h0 : 0 ≤ s) (h1 : s ≤ m) (h2 : m ≤ e) : Mv xs ys s e := by
  refine ⟨h.perm, h.out, fun p k1 k2 => ?_⟩
  by_cases hp : p < s + (e - m)
  · exact ⟨_, by omega, by omega, h.left p k1 hp⟩
  · exact ⟨_, by omega, by omega, h.right p (by omega) k2⟩
theorem Rot.refl_l (xs : List Int) (s m : Int) : Rot xs xs s m m := ⟨.refl _, fun p h1 h2 => by omega, fun p h1 h2 => by rw [show p - (m - m) = p by omega], fun p _ _ => rfl⟩
theorem Rot.refl_r (xs : List Int) (m e : Int) : Rot xs xs m m e := ⟨.refl _, fun p h1 h2 => by rw [show p - m + m = p by omega], fun p h1 h2 => by omega, fun p _ _ => rfl⟩
/-- one to the right -/
theorem Rot.up {xs ys : List Int} {a t : Int} (h : Rot xs ys a (a + 1) (t + 1)) (ha : 0 ≤ a) (hat : a ≤ t) (ht : t + 1 < ys.length) : Rot xs (sw ys t (t + 1)) a (a + 1) (t + 1 + 1) := by
  have e : ∀ p, 0 ≤ p → nth (sw ys t (t + 1)) p = if p = t then nth ys (t + 1) else if p = t + 1 then nth ys t else nth ys p := fun p hp => sw_nth (by omega) (by omega) (by omega) ht hp
  refine ⟨(sw_perm (by omega) (by omega) (by omega) ht).trans h.perm, fun p h1 h2 => ?_, fun p h1 h2 => ?_, fun p h1 h2 => ?_⟩
  · rw [e p (by omega)]
    by_cases hp : p = t
    · rw [if_pos hp, h.out (t + 1) (by omega) (by omega)]; congr 1; omega
    · rw [if_neg hp, if_neg (by omega), h.left p h1 (by omega)]
  · rw [e p (by omega), if_neg (by omega), if_pos (by omega), h.right t (by omega) (by omega)]; congr 1; omega
  · rw [e p h1, if_neg (by omega), if_neg (by omega), h.out p h1 (by omega)]
/-- one to the left -/
theorem Rot.down {xs ys : List Int} {m t : Int} (h : Rot xs ys t m (m + 1)) (ht : 0 < t) (htm : t ≤ m) (hm : m < ys.length) : Rot xs (sw ys t (t - 1)) (t - 1) m (m + 1) := by
  have e : ∀ p, 0 ≤ p → nth (sw ys t (t - 1)) p = if p = t then nth ys (t - 1) else if p = t - 1 then nth ys t else nth ys p := fun p hp => sw_nth (by omega) (by omega) (by omega) (by omega) hp
  refine ⟨(sw_perm (by omega) (by omega) (by omega) (by omega)).trans h.perm, fun p h1 h2 => ?_, fun p h1 h2 => ?_, fun p h1 h2 => ?_⟩
  · rw [e p (by omega), if_neg (by omega), if_pos (by omega), h.left t (by omega) (by omega)]; congr 1; omega
  · rw [e p (by omega)]
    by_cases hp : p = t
    · rw [if_pos hp, h.out (t - 1) (by omega) (by omega)]; congr 1; omega
    · rw [if_neg hp, if_neg (by omega), h.right p (by omega) (by omega)]
  · rw [e p h1, if_neg (by omega), if_neg (by omega), h.out p h1 (by omega)]

/-- the search for one element of the left -/
structure SA (k : Int → Int) (xs : List Int) (a m b i j : Int) : Prop where
  h1 : m ≤ i
  h2 : i ≤ j
  h3 : j ≤ b
  lo : ∀ q, m ≤ q → q < i → k (nth xs q) < k (nth xs a)
  hi : ∀ q, j ≤ q → q < b → k (nth xs a) ≤ k (nth xs q)
theorem SA.lt {k : Int → Int} {xs : List Int} {a m b i j h : Int} (s : SA k xs a m b i j) (hr : Srt k xs m b) (h1 : i ≤ h) (h2 : h < j) (hc : k (nth xs h) < k (nth xs a)) : SA k xs a m b (h + 1) j := by
  have := s.h1; have := s.h3
  exact ⟨by omega, by omega, by omega, fun q k1 k2 => Int.lt_of_le_of_lt (hr.le k1 (by omega) (by omega)) hc, s.hi⟩
theorem SA.ge {k : Int → Int} {xs : List Int} {a m b i j h : Int} (s : SA k xs a m b i j) (hr : Srt k xs m b) (h1 : i ≤ h) (h2 : h < j) (hc : k (nth xs a) ≤ k (nth xs h)) : SA k xs a m b i h := by
  have := s.h1; have := s.h3
  exact ⟨by omega, by omega, by omega, s.lo, fun q k1 k2 => Int.le_trans hc (hr.le (by omega) k1 k2)⟩
theorem SA.fin {k : Int → Int} {xs ys : List Int} {a b i : Int} (s : SA k xs a (a + 1) b i i) (hp : SymPre k xs a (a + 1) b) (ha : 0 ≤ a) (hr : Rot xs ys a (a + 1) i) : Srt k ys a b := by
  have g1 := s.h1; have g3 := s.h3
  have v : ∀ p, a ≤ p → nth ys p = if p < i - 1 then nth xs (p + 1) else if p = i - 1 then nth xs a else nth xs p := by
    intro p h0
    by_cases h1 : p < i - 1
    · rw [if_pos h1, hr.left p h0 (by omega)]; congr 1; omega
    · rw [if_neg h1]
      by_cases h2 : p = i - 1
      · rw [if_pos h2, hr.right p (by omega) (by omega)]; congr 1; omega
      · rw [if_neg h2, hr.out p (by omega) (by omega)]
  intro p q h1 h2 h3
  rw [v p h1, v q (by omega)]
  by_cases c1 : p < i - 1
  · rw [if_pos c1]
    by_cases c2 : q < i - 1
    · rw [if_pos c2]; exact hp.r _ _ (by omega) (by omega) (by omega)
    · rw [if_neg c2]
      by_cases c3 : q = i - 1
      · rw [if_pos c3]; exact .inl (s.lo _ (by omega) (by omega))
      · rw [if_neg c3]; exact hp.r _ _ (by omega) (by omega) (by omega)
  · rw [if_neg c1, if_neg (by omega : ¬ q < i - 1), if_neg (by omega : ¬ q = i - 1)]
    by_cases c3 : p = i - 1
    · rw [if_pos c3]
      have e1 := s.hi q (by omega) h3
      have e2 := hp.x a q (Int.le_refl _) (by omega) (by omega) h3
      unfold Go.Aev.M33.lt; omega
    · rw [if_neg c3]; exact hp.r _ _ (by omega) h2 h3
/-- the search for one element of the right -/
structure SB (k : Int → Int) (xs : List Int) (a m i j : Int) : Prop where
  h1 : a ≤ i
  h2 : i ≤ j
  h3 : j ≤ m
  lo : ∀ p, a ≤ p → p < i → k (nth xs p) ≤ k (nth xs m)
  hi : ∀ p, j ≤ p → p < m → k (nth xs m) < k (nth xs p)
theorem SB.ge {k : Int → Int} {xs : List Int} {a m i j h : Int} (s : SB k xs a m i j) (hr : Srt k xs a m) (h1 : i ≤ h) (h2 : h < j) (hc : k (nth xs h) ≤ k (nth xs m)) : SB k xs a m (h + 1) j := by
  have := s.h1; have := s.h3
  exact ⟨by omega, by omega, by omega, fun q k1 k2 => Int.le_trans (hr.le k1 (by omega) (by omega)) hc, s.hi⟩
theorem SB.lt {k : Int → Int} {xs : List Int} {a m i j h : Int} (s : SB k xs a m i j) (hr : Srt k xs a m) (h1 : i ≤ h) (h2 : h < j) (hc : k (nth xs m) < k (nth xs h)) : SB k xs a m i h := by
  have := s.h1; have := s.h3
  exact ⟨by omega, by omega, by omega, s.lo, fun q k1 k2 => Int.lt_of_lt_of_le hc (hr.le (by omega) k1 k2)⟩
theorem SB.fin {k : Int → Int} {xs ys : List Int} {a m i : Int} (s : SB k xs a m i i) (hp : SymPre k xs a m (m + 1)) (ha : 0 ≤ a) (hr : Rot xs ys i m (m + 1)) : Srt k ys a (m + 1) := by
  have g1 := s.h1; have g3 := s.h3
  have v : ∀ p, a ≤ p → p < m + 1 → nth ys p = if p < i then nth xs p else if p = i then nth xs m else nth xs (p - 1) := by
    intro p h0 h9
    by_cases h1 : p < i
    · rw [if_pos h1, hr.out p (by omega) (by omega)]
    · rw [if_neg h1]
      by_cases h2 : p = i
      · rw [if_pos h2, hr.left p (by omega) (by omega)]; congr 1; omega
      · rw [if_neg h2, hr.right p (by omega) (by omega)]; congr 1; omega
  intro p q h1 h2 h3
  rw [v p h1 (by omega), v q (by omega) h3]
  by_cases c1 : p < i
  · rw [if_pos c1]
    by_cases c2 : q < i
    · rw [if_pos c2]; exact hp.l _ _ h1 h2 (by omega)
    · rw [if_neg c2]
      by_cases c3 : q = i
      · rw [if_pos c3]
        have e1 := s.lo p h1 c1
        have e2 := hp.x p m h1 (by omega) (by omega) (by omega)
        unfold Go.Aev.M33.lt; omega
      · rw [if_neg c3]; exact hp.l _ _ h1 (by omega) (by omega)
  · rw [if_neg c1, if_neg (by omega : ¬ q < i), if_neg (by omega : ¬ q = i)]
    by_cases c3 : p = i
    · rw [if_pos c3]; exact .inl (s.hi _ (by omega) (by omega))
    · rw [if_neg c3]; exact hp.l _ _ (by omega) (by omega) (by omega)

/-- the search for the cut -/
structure SCut (k : Int → Int) (xs : List Int) (a m b s0 r0 n st r : Int) : Prop where
  h1 : s0 ≤ st
  h2 : st ≤ r
  h3 : r ≤ r0
  rg : ∀ c, s0 ≤ c → c < r0 → a ≤ c ∧ c < m ∧ m ≤ n - 1 - c ∧ n - 1 - c < b
  lo : ∀ c, s0 ≤ c → c < st → k (nth xs c) ≤ k (nth xs (n - 1 - c))
  hi : ∀ c, r ≤ c → c < r0 → k (nth xs (n - 1 - c)) < k (nth xs c)
theorem SCut.ge {k : Int → Int} {xs : List Int} {a m b s0 r0 n st r c : Int} (s : SCut k xs a m b s0 r0 n st r) (hp : SymPre k xs a m b) (h1 : st ≤ c) (h2 : c < r) (hc : k (nth xs c) ≤ k (nth xs (n - 1 - c))) : SCut k xs a m b s0 r0 n (c + 1) r := by
  have := s.h1; have := s.h3
  refine ⟨by omega, by omega, by omega, s.rg, fun d k1 k2 => ?_, s.hi⟩
  obtain ⟨g1, g2, g3, g4⟩ := s.rg c (by omega) (by omega)
  obtain ⟨g5, g6, g7, g8⟩ := s.rg d (by omega) (by omega)
  exact Int.le_trans (hp.l.le g5 (by omega) g2) (Int.le_trans hc (hp.r.le g3 (by omega) g8))
theorem SCut.lt {k : Int → Int} {xs : List Int} {a m b s0 r0 n st r c : Int} (s : SCut k xs a m b s0 r0 n st r) (hp : SymPre k xs a m b) (h1 : st ≤ c) (h2 : c < r) (hc : k (nth xs (n - 1 - c)) < k (nth xs c)) : SCut k xs a m b s0 r0 n st c := by
  have := s.h1; have := s.h3
  refine ⟨by omega, by omega, by omega, s.rg, s.lo, fun d k1 k2 => ?_⟩
  obtain ⟨g1, g2, g3, g4⟩ := s.rg c (by omega) (by omega)
  obtain ⟨g5, g6, g7, g8⟩ := s.rg d (by omega) (by omega)
  exact Int.lt_of_le_of_lt (hp.r.le g7 (by omega) g4) (Int.lt_of_lt_of_le hc (hp.l.le g1 (by omega) g6))
/-- what the cut gives -/
structure Cut (k : Int → Int) (xs : List Int) (a m b st en : Int) : Prop where
  h1 : a ≤ st
  h2 : st ≤ m
  h3 : m ≤ en
  h4 : en ≤ b
  up : ∀ p q, a ≤ p → p < st → en ≤ q → q < b → k (nth xs p) ≤ k (nth xs q)
  dn : ∀ p q, st ≤ p → p < m → m ≤ q → q < en → k (nth xs q) < k (nth xs p)
theorem SCut.cut {k : Int → Int} {xs : List Int} {a m b s0 r0 n st : Int} (s : SCut k xs a m b s0 r0 n st st) (hp : SymPre k xs a m b) (h1 : a ≤ st) (h2 : st ≤ m) (h3 : m ≤ n - st) (h4 : n - st ≤ b) (hs : s0 = a ∨ n - s0 = b) (hr : r0 = m ∨ n - r0 = m) : Cut k xs a m b st (n - st) := by
  have g1 := s.h1; have g3 := s.h3
  refine ⟨h1, h2, h3, h4, fun p q k1 k2 k3 k4 => ?_, fun p q k1 k2 k3 k4 => ?_⟩
  · have e := s.lo (st - 1) (by omega) (by omega)
    have e1 := hp.l.le (p := p) (q := st - 1) k1 (by omega) (by omega)
    have e2 := hp.r.le (p := n - 1 - (st - 1)) (q := q) (by omega) (by omega) k4
    omega
  · have e := s.hi st (by omega) (by omega)
    have e1 := hp.l.le (p := st) (q := p) h1 (by omega) (by omega)
    have e2 := hp.r.le (p := q) (q := n - 1 - st) (by omega) (by omega) (by omega)
    omega
theorem Cut.rot {k : Int → Int} {xs ys : List Int} {a m b st en mid : Int} (c : Cut k xs a m b st en) (hp : SymPre k xs a m b) (ha : 0 ≤ a) (hm : mid = st + (en - m)) (hr : Rot xs ys st m en) :
    SymPre k ys a st mid ∧ SymPre k ys mid en b ∧ (∀ p q, a ≤ p → p < mid → mid ≤ q → q < b → lt k (nth ys p) (nth ys q)) ∧ Mv xs ys a b := by
  have g1 := c.h1; have g2 := c.h2; have g3 := c.h3; have g4 := c.h4
  have v1 : ∀ p, a ≤ p → p < st → nth ys p = nth xs p := fun p k1 k2 => hr.out p (by omega) (by omega)
  have v2 : ∀ p, st ≤ p → p < mid → nth ys p = nth xs (p - st + m) := fun p k1 k2 => hr.left p k1 (by omega)
  have v3 : ∀ p, mid ≤ p → p < en → nth ys p = nth xs (p - (en - m)) := fun p k1 k2 => hr.right p (by omega) k2
  have v4 : ∀ p, en ≤ p → p < b → nth ys p = nth xs p := fun p k1 k2 => hr.out p (by omega) (by omega)
  refine ⟨⟨fun p q k1 k2 k3 => ?_, fun p q k1 k2 k3 => ?_, fun p q k1 k2 k3 k4 => ?_⟩, ⟨fun p q k1 k2 k3 => ?_, fun p q k1 k2 k3 => ?_, fun p q k1 k2 k3 k4 => ?_⟩, fun p q k1 k2 k3 k4 => ?_, (hr.mv (by omega) g2 g3).mono ha g1 g4⟩
  · rw [v1 p k1 (by omega), v1 q (by omega) k3]; exact hp.l p q k1 k2 (by omega)
  · rw [v2 p k1 (by omega), v2 q (by omega) k3]; exact hp.r _ _ (by omega) (by omega) (by omega)
  · rw [v1 p k1 k2, v2 q k3 k4]; exact hp.x _ _ k1 (by omega) (by omega) (by omega)
  · rw [v3 p k1 (by omega), v3 q (by omega) k3]; exact hp.l _ _ (by omega) (by omega) (by omega)
  · rw [v4 p k1 (by omega), v4 q (by omega) k3]; exact hp.r _ _ (by omega) (by omega) (by omega)
  · rw [v3 p k1 k2, v4 q k3 k4]; exact hp.x _ _ (by omega) (by omega) (by omega) (by omega)
  · by_cases d1 : p < st
    · rw [v1 p k1 d1]
      by_cases d2 : q < en
      · rw [v3 q k3 d2]; exact hp.l _ _ (by omega) (by omega) (by omega)
      · rw [v4 q (by omega) k4]
        have e1 := c.up p q k1 d1 (by omega) k4
        have e2 := hp.x p q k1 (by omega) (by omega) k4
        unfold lt; omega
    · rw [v2 p (by omega) k2]
      by_cases d2 : q < en
      · rw [v3 q k3 d2]; exact .inl (c.dn _ _ (by omega) (by omega) (by omega) (by omega))
      · rw [v4 q (by omega) k4]; exact hp.r _ _ (by omega) (by omega) (by omega)
end Go.Aev.M33
end
/- M33Sym3K -/
section
namespace Go.Aev.M33
open List
set_option maxRecDepth 1000000
set_option linter.unusedVariables false
theorem symK_Aloop {cn : List Int} {xs : List Int} {a m b : Int} (ha : 0 ≤ a) (ham : a < m) (hb : b ≤ xs.length) (hn : xs.length ≤ 1073741824) (hd : ∀ x ∈ xs, 0 ≤ x ∧ x < cn.length) (hr : Srt (kyK cn) xs m b) {Q : V → Aev.Rows → Prop} (h : ∀ i, SA (kyK cn) xs a m b i i → Ends c0 3 (HAs xs.length (ints xs) (TK cn) i a) Q) : ∀ (d : Nat) (i j : Int), (j - i).toNat = d → SA (kyK cn) xs a m b i j → Ends c0 3 (HA xs.length xs (TK cn) a m b i j) Q := by
  intro d
  induction d using Nat.strongRecOn with
  | _ d ih =>
    intro i j hd' s
    have s1 := s.h1; have s2 := s.h2; have s3 := s.h3
    by_cases hij : i < j
    · have e := hf_eq (x := i + j) (by omega) (by omega)
      by_cases hc : (kyK cn) (nth xs (hf (i + j))) < (kyK cn) (nth xs a)
      · exact symK_A_lt rfl hij (by unfold inInt; omega) (by omega) (by omega) (nth_all hd (by omega) (by omega)) (by omega) (by omega) (nth_all hd (by omega) (by omega)) (cmpI_lt.2 hc) (by unfold inInt; omega) (ih _ (by omega) _ _ rfl (s.lt hr (by omega) (by omega) hc))
      · exact symK_A_ge rfl hij (by unfold inInt; omega) (by omega) (by omega) (nth_all hd (by omega) (by omega)) (by omega) (by omega) (nth_all hd (by omega) (by omega)) (cmpI_ge.2 (Int.not_lt.1 hc)) (ih _ (by omega) _ _ rfl (s.ge hr (by omega) (by omega) (Int.not_lt.1 hc)))
    · obtain rfl : i = j := by omega
      exact symK_A_done (Int.le_refl _) (h i s)
theorem symK_Aswap {cn : List Int} {xs : List Int} {a i : Int} (ha : 0 ≤ a) (hi : i ≤ xs.length) (hn : xs.length ≤ 1073741824) {Q : V → Aev.Rows → Prop} (h : ∀ ys, Rot xs ys a (a + 1) i → Q (.tup []) (RW ys :: (TK cn))) : ∀ (d : Nat) (zs : List Int) (t : Int), (i - 1 - t).toNat = d → a ≤ t → t ≤ i - 1 → Rot xs zs a (a + 1) (t + 1) → Ends c0 3 (HAs zs.length (ints zs) (TK cn) i t) Q := by
  intro d
  induction d with
  | zero =>
    intro zs t hd h1 h2 hr
    obtain rfl : t = i - 1 := by omega
    rw [show i - 1 + 1 = i by omega] at hr
    exact symK_A_end (by unfold inInt; omega) (Int.le_refl _) (h zs hr)
  | succ d ih =>
    intro zs t hd h1 h2 hr
    have hl := hr.perm.length_eq
    refine symK_A_swap rfl (by omega) (by unfold inInt; omega) (by omega) (by omega) (by omega) ?_
    rw [ints_sw]
    have := ih (sw zs t (t + 1)) (t + 1) (by omega) (by omega) (by omega) (hr.up ha h1 (by omega))
    rw [sw_len] at this
    exact this
theorem symK_Bloop {cn : List Int} {xs : List Int} {a m b : Int} (ha : 0 ≤ a) (hb : m < xs.length) (hn : xs.length ≤ 1073741824) (hd : ∀ x ∈ xs, 0 ≤ x ∧ x < cn.length) (hr : Srt (kyK cn) xs a m) {Q : V → Aev.Rows → Prop} (h : ∀ i, SB (kyK cn) xs a m i i → Ends c0 3 (HBs xs.length (ints xs) (TK cn) i m) Q) : ∀ (d : Nat) (i j : Int), (j - i).toNat = d → SB (kyK cn) xs a m i j → Ends c0 3 (HB xs.length xs (TK cn) a m b i j) Q := by
  intro d
  induction d using Nat.strongRecOn with
  | _ d ih =>
    intro i j hd' s
    have s1 := s.h1; have s2 := s.h2; have s3 := s.h3
    by_cases hij : i < j
    · have e := hf_eq (x := i + j) (by omega) (by omega)
      by_cases hc : (kyK cn) (nth xs m) < (kyK cn) (nth xs (hf (i + j)))
      · exact symK_B_lt rfl hij (by unfold inInt; omega) (by omega) (by omega) (nth_all hd (by omega) (by omega)) (by omega) (by omega) (nth_all hd (by omega) (by omega)) (cmpI_lt.2 hc) (ih _ (by omega) _ _ rfl (s.lt hr (by omega) (by omega) hc))
      · exact symK_B_ge rfl hij (by unfold inInt; omega) (by omega) (by omega) (nth_all hd (by omega) (by omega)) (by omega) (by omega) (nth_all hd (by omega) (by omega)) (cmpI_ge.2 (Int.not_lt.1 hc)) (by unfold inInt; omega) (ih _ (by omega) _ _ rfl (s.ge hr (by omega) (by omega) (Int.not_lt.1 hc)))
    · obtain rfl : i = j := by omega
      exact symK_B_done (Int.le_refl _) (h i s)
theorem symK_Bswap {cn : List Int} {xs : List Int} {m i : Int} (hi0 : 0 ≤ i) (hm : m < xs.length) (hn : xs.length ≤ 1073741824) {Q : V → Aev.Rows → Prop} (h : ∀ ys, Rot xs ys i m (m + 1) → Q (.tup []) (RW ys :: (TK cn))) : ∀ (d : Nat) (zs : List Int) (t : Int), (t - i).toNat = d → i ≤ t → t ≤ m → Rot xs zs t m (m + 1) → Ends c0 3 (HBs zs.length (ints zs) (TK cn) i t) Q := by
  intro d
  induction d with
  | zero =>
    intro zs t hd h1 h2 hr
    obtain rfl : t = i := by omega
    exact symK_B_end (Int.le_refl _) (h zs hr)
  | succ d ih =>
    intro zs t hd h1 h2 hr
    have hl := hr.perm.length_eq
    refine symK_B_swap rfl (by omega) (by omega) (by omega) (by omega) ?_
    rw [ints_sw]
    have := ih (sw zs t (t - 1)) (t - 1) (by omega) (by omega) (by omega) (hr.down (by omega) h2 (by omega))
    rw [sw_len] at this
    exact this
theorem symK_Cloop {cn : List Int} {xs : List Int} {a m b mid nn s0 r0 : Int} (ha : 0 ≤ a) (hm : m ≤ b) (hb : b ≤ xs.length) (hn : xs.length ≤ 1073741824) (hd : ∀ x ∈ xs, 0 ≤ x ∧ x < cn.length) (hp : SymPre (kyK cn) xs a m b) (hs0 : a ≤ s0) (hr0 : r0 ≤ m) {Q : V → Aev.Rows → Prop} (h : ∀ st, SCut (kyK cn) xs a m b s0 r0 nn st st → Ends c0 3 (HD1 xs.length xs (TK cn) a m b mid st (nn - st)) Q) (hnn : inInt nn) (hnn0 : 0 ≤ nn) : ∀ (d : Nat) (st r : Int), (r - st).toNat = d → SCut (kyK cn) xs a m b s0 r0 nn st r → Ends c0 3 (HCs xs.length xs (TK cn) a m b mid nn st r (nn - 1)) Q := by
  intro d
  unfold inInt at hnn
  induction d using Nat.strongRecOn with
  | _ d ih =>
    intro i j hd' s
    have s1 := s.h1; have s2 := s.h2; have s3 := s.h3
    by_cases hij : i < j
    · have e := hf_eq (x := i + j) (by omega) (by omega)
      obtain ⟨g1, g2, g3, g4⟩ := s.rg (hf (i + j)) (by omega) (by omega)
      by_cases hc : (kyK cn) (nth xs (nn - 1 - hf (i + j))) < (kyK cn) (nth xs (hf (i + j)))
      · exact symK_C_lt rfl hij (by unfold inInt; omega) (by unfold inInt; omega) (by omega) (by omega) (nth_all hd (by omega) (by omega)) (by omega) (by omega) (nth_all hd (by omega) (by omega)) (cmpI_lt.2 hc) (ih _ (by omega) _ _ rfl (s.lt hp (by omega) (by omega) hc))
      · exact symK_C_ge rfl hij (by unfold inInt; omega) (by unfold inInt; omega) (by omega) (by omega) (nth_all hd (by omega) (by omega)) (by omega) (by omega) (nth_all hd (by omega) (by omega)) (cmpI_ge.2 (Int.not_lt.1 hc)) (by unfold inInt; omega) (ih _ (by omega) _ _ rfl (s.ge hp (by omega) (by omega) (Int.not_lt.1 hc)))
    · obtain rfl : i = j := by omega
      exact symK_C_done (Int.le_refl _) (by unfold inInt; omega) (h i s)
/-- what symMerge does -/
def SymK {cn : List Int} (xs : List Int) (a m b : Int) : Prop := SortDoes 114 3 [I a, I m, I b] (TK cn) xs (fun ys => Mv xs ys a b ∧ Srt (kyK cn) ys a b)
theorem symK_D {cn : List Int} {xs : List Int} {a m b mid st en : Int} (ha : 0 ≤ a) (hb : b ≤ xs.length) (hn : xs.length ≤ 1073741824) (hd : ∀ x ∈ xs, 0 ≤ x ∧ x < cn.length) (hp : SymPre (kyK cn) xs a m b) (hc : Cut (kyK cn) xs a m b st en) (hmid : mid = st + (en - m)) (h1 : a < mid) (h2 : mid < b)
    (ih : ∀ (ys : List Int) (c n e : Int), ys.length ≤ 1073741824 → (hd : ∀ x ∈ ys, 0 ≤ x ∧ x < cn.length) → 0 ≤ c → c < n → n < e → e ≤ ys.length → e - c < b - a → SymPre (kyK cn) ys c n e → SymK (cn := cn) ys c n e) {Q : V → Aev.Rows → Prop} (h : ∀ ys, Mv xs ys a b → Srt (kyK cn) ys a b → Q (.tup []) (RW ys :: (TK cn))) : Ends c0 3 (HD1 xs.length xs (TK cn) a m b mid st en) Q := by
  have g1 := hc.h1; have g2 := hc.h2; have g3 := hc.h3; have g4 := hc.h4
  have k2 : ∀ ys, Rot xs ys st m en → Ends c0 3 (HD2 ys.length ys (TK cn) a m b mid st en) Q := by
    intro ys hr
    have hl := hr.perm.length_eq
    have hdy := all_perm hr.perm hd
    obtain ⟨p1, p2, p3, p4⟩ := hc.rot hp ha hmid hr
    have k3 : ∀ zs, Mv ys zs a mid → Srt (kyK cn) zs a mid → Ends c0 3 (HD3 zs.length zs (TK cn) a m b mid st en) Q := by
      intro zs hz hs
      have hlz := hz.len
      have hdz := all_perm hz.perm hdy
      have o : ∀ p, mid ≤ p → nth zs p = nth ys p := fun p hq => hz.out p (by omega) (by omega)
      have p2' : SymPre (kyK cn) zs mid en b := ⟨p2.l.congr fun p q1 q2 => o p q1, p2.r.congr fun p q1 q2 => o p (by omega), fun p q q1 q2 q3 q4 => by rw [o p q1, o q (by omega)]; exact p2.x p q q1 q2 q3 q4⟩
      have k4 : ∀ ws, Mv zs ws mid b → Srt (kyK cn) ws mid b → Q (.tup []) (RW ws :: (TK cn)) := by
        intro ws hw hws
        have ow : ∀ p, a ≤ p → p < mid → nth ws p = nth zs p := fun p q1 q2 => hw.out p (by omega) (by omega)
        refine h ws (p4.trans ((hz.mono ha (Int.le_refl _) (by omega)).trans (hw.mono ha (by omega) (Int.le_refl _)))) ?_
        refine Srt.join (hs.congr ow) hws fun p q q1 q2 q3 q4 => ?_
        rw [ow p q1 q2]
        obtain ⟨p', r1, r2, e1⟩ := hz.inn p q1 q2
        obtain ⟨q', r3, r4, e2⟩ := hw.inn q q3 q4
        rw [e1, e2, o q' r3]
        exact p3 p' q' r1 r2 r3 r4
      by_cases c1 : mid < en
      · by_cases c2 : en < b
        · exact symK_D3_yes c1 c2 (ih zs mid en b (by omega) hdz (by omega) c1 c2 (by omega) (by omega) p2') fun ws _ hw => k4 ws hw.1 hw.2
        · exact symK_D3_no2 c1 (by omega) (k4 zs (.refl _ _ _) (by rw [show b = en by omega]; exact p2'.l))
      · exact symK_D3_no1 (by omega) (k4 zs (.refl _ _ _) (by rw [show mid = en by omega]; exact p2'.r))
    by_cases c1 : a < st
    · by_cases c2 : st < mid
      · exact symK_D2_yes c1 c2 (ih ys a st mid (by omega) hdy ha c1 c2 (by omega) (by omega) p1) fun zs hl' hz => by rw [← hl']; exact k3 zs hz.1 hz.2
      · exact symK_D2_no2 c1 (by omega) (k3 ys (.refl _ _ _) (by rw [show mid = st by omega]; exact p1.l))
    · exact symK_D2_no1 (by omega) (k3 ys (.refl _ _ _) (by rw [show a = st by omega]; exact p1.r))
  by_cases c1 : st < m
  · by_cases c2 : m < en
    · exact symK_D1_yes c1 c2 (rotK_does (by omega) c1 c2 (by omega) hn) fun ys hl hr => by rw [← hl]; exact k2 ys hr
    · have e : en = m := by omega
      exact symK_D1_no2 c1 (by omega) (k2 xs (by rw [e]; exact .refl_l _ _ _))
  · have e : st = m := by omega
    exact symK_D1_no1 (by omega) (k2 xs (by rw [e]; exact .refl_r _ _ _))
theorem symK_does {cn : List Int} : ∀ (d : Nat) (xs : List Int) (a m b : Int), (b - a).toNat = d → xs.length ≤ 1073741824 → (hd : ∀ x ∈ xs, 0 ≤ x ∧ x < cn.length) → 0 ≤ a → a < m → m < b → b ≤ xs.length → SymPre (kyK cn) xs a m b → SymK (cn := cn) xs a m b := by
  intro d
  induction d using Nat.strongRecOn with
  | _ d ih =>
    intro xs a m b hd' hn hd ha h1 h2 hb hp
    refine does_of (c := cS) cS_ok (by kernel_rfl) (Ends.cfg rfl (c := c0) ?_)
    show Ends c0 3 (s114 xs.length xs (TK cn) a m b) _
    by_cases c1 : m - a = 1
    · obtain rfl : m = a + 1 := by omega
      refine symK_A (by unfold inInt; omega) c1 (symK_Aloop ha h1 hb hn hd hp.r (fun i s => ?_) _ (a + 1) b rfl ⟨Int.le_refl _, by omega, Int.le_refl _, fun q k1 k2 => by omega, fun q k1 k2 => by omega⟩)
      have s1 := s.h1; have s3 := s.h3
      refine symK_Aswap (xs := xs) ha (by omega) hn (fun ys hr => ⟨ys, hr.perm.length_eq, ⟨(hr.mv ha (by omega) (by omega)).mono ha (Int.le_refl _) s3, s.fin hp ha hr⟩, rfl, rfl⟩) _ xs a rfl (Int.le_refl _) (by omega) (.refl_l _ _ _)
    · by_cases c2 : b - m = 1
      · obtain rfl : b = m + 1 := by omega
        refine symK_B (by unfold inInt; omega) c1 (by unfold inInt; omega) c2 (symK_Bloop ha (by omega) hn hd hp.l (fun i s => ?_) _ a m rfl ⟨Int.le_refl _, by omega, Int.le_refl _, fun q k1 k2 => by omega, fun q k1 k2 => by omega⟩)
        have s1 := s.h1; have s3 := s.h3
        refine symK_Bswap (xs := xs) (by omega) (by omega) hn (fun ys hr => ⟨ys, hr.perm.length_eq, ⟨(hr.mv (by omega) (by omega) (by omega)).mono ha s1 (Int.le_refl _), s.fin hp ha hr⟩, rfl, rfl⟩) _ xs m rfl s3 (Int.le_refl _) (.refl_r _ _ _)
      · have e := hf_eq (x := a + b) (by omega) (by omega)
        have fin : ∀ s0 r0 st, SCut (kyK cn) xs a m b s0 r0 (hf (a + b) + m) st st → a ≤ s0 → r0 ≤ m → (s0 = a ∨ hf (a + b) + m - s0 = b) → (r0 = m ∨ hf (a + b) + m - r0 = m) → Ends c0 3 (HD1 xs.length xs (TK cn) a m b (hf (a + b)) st (hf (a + b) + m - st)) (fun v rows => ∃ xs', xs'.length = xs.length ∧ (Mv xs xs' a b ∧ Srt (kyK cn) xs' a b) ∧ v = .tup [] ∧ rows = RW xs' :: (TK cn)) := by
          intro s0 r0 st s k1 k2 k3 k4
          have s1 := s.h1; have s3 := s.h3
          have hle : hf (a + b) + m - st ≤ b := by
            by_cases he : s0 < r0
            · have := s.rg s0 (Int.le_refl _) he; omega
            · omega
          have hge : m ≤ hf (a + b) + m - st := by
            by_cases he : s0 < r0
            · have := s.rg (r0 - 1) (by omega) (by omega); omega
            · omega
          exact symK_D ha hb hn hd hp (s.cut hp (by omega) (by omega) hge hle k3 k4) (by omega) (by omega) (by omega) (fun ys c n e q1 q2 q3 q4 q5 q6 q7 q8 => ih _ (by omega) ys c n e rfl q1 q2 q3 q4 q5 q6 q8) fun ys hy hs => ⟨ys, hy.len, ⟨hy, hs⟩, rfl, rfl⟩
        by_cases c3 : hf (a + b) < m
        · exact symK_C1 (by unfold inInt; omega) c1 (by unfold inInt; omega) c2 (by unfold inInt; omega) (by unfold inInt; omega) (by unfold inInt; omega) c3 (by unfold inInt; omega)
            (symK_Cloop ha (by omega) hb hn hd hp (by omega) (by omega) (fun st s => fin _ _ st s (by omega) (by omega) (.inr (by omega)) (.inr (by omega))) (by unfold inInt; omega) (by omega) _ (hf (a + b) + m - b) (hf (a + b)) rfl
              ⟨Int.le_refl _, by omega, Int.le_refl _, fun c q1 q2 => by omega, fun c q1 q2 => by omega, fun c q1 q2 => by omega⟩)
        · exact symK_C2 (by unfold inInt; omega) c1 (by unfold inInt; omega) c2 (by unfold inInt; omega) (by unfold inInt; omega) (by unfold inInt; omega) (by omega)
            (symK_Cloop ha (by omega) hb hn hd hp (by omega) (by omega) (fun st s => fin _ _ st s (by omega) (by omega) (.inl rfl) (.inl rfl)) (by unfold inInt; omega) (by omega) _ a m rfl
              ⟨Int.le_refl _, by omega, Int.le_refl _, fun c q1 q2 => by omega, fun c q1 q2 => by omega, fun c q1 q2 => by omega⟩)
end Go.Aev.M33
end
/- M33StbPlain -/
section
namespace Go.Aev.M33
open List
set_option linter.unusedVariables false
/-- from a on: sorted blocks of size bs, each one's numbers below the later ones' -/
inductive Chain (k : Int → Int) (xs : List Int) (bs n : Int) : Int → Prop
  | last {a : Int} : n ≤ a + bs → Srt k xs a n → Chain k xs bs n a
  | cons {a : Int} : a + bs ≤ n → Srt k xs a (a + bs) → (∀ p q, a ≤ p → p < a + bs → a + bs ≤ q → q < n → nth xs p < nth xs q) → Chain k xs bs n (a + bs) → Chain k xs bs n a
theorem Chain.congr {k : Int → Int} {xs ys : List Int} {bs n : Int} (hb : 0 ≤ bs) : ∀ {a : Int}, Chain k xs bs n a → (∀ p, a ≤ p → p < n → nth ys p = nth xs p) → Chain k ys bs n a := by
  intro a h
  induction h with
  | last h1 h2 => intro he; exact .last h1 (h2.congr he)
  | cons h1 h2 h3 h4 ih =>
    intro he
    exact .cons h1 (h2.congr fun p k1 k2 => he p k1 (by omega)) (fun p q k1 k2 k3 k4 => by rw [he p k1 (by omega), he q (by omega) k4]; exact h3 p q k1 k2 k3 k4) (ih fun p k1 k2 => he p (by omega) k2)
theorem Srt.nil {k : Int → Int} {xs : List Int} {a b : Int} (h : b ≤ a) : Srt k xs a b := fun p q h1 h2 h3 => by omega
theorem Chain.two {k : Int → Int} {xs : List Int} {bs n a : Int} (hb : 0 < bs) (h : Chain k xs bs n a) (hn : a + 2 * bs ≤ n) :
    SymPre k xs a (a + bs) (a + 2 * bs) ∧ (∀ p q, a ≤ p → p < a + 2 * bs → a + 2 * bs ≤ q → q < n → nth xs p < nth xs q) ∧ Chain k xs bs n (a + 2 * bs) := by
  cases h with
  | last h1 h2 => omega
  | cons h1 h2 h3 h4 =>
    cases h4 with
    | last k1 k2 =>
      have e : a + 2 * bs = n := by omega
      rw [e]
      exact ⟨⟨h2, k2, h3⟩, fun p q q1 q2 q3 q4 => by omega, .last (by omega) (.nil (Int.le_refl _))⟩
    | cons k1 k2 k3 k4 =>
      have e : a + bs + bs = a + 2 * bs := by omega
      rw [e] at k1 k2 k3 k4
      refine ⟨⟨h2, k2, fun p q q1 q2 q3 q4 => h3 p q q1 q2 q3 (by omega)⟩, fun p q q1 q2 q3 q4 => ?_, k4⟩
      by_cases hp : p < a + bs
      · exact h3 p q q1 hp (by omega) q4
      · exact k3 p q (by omega) q2 q3 q4
theorem Chain.tail {k : Int → Int} {xs : List Int} {bs n a : Int} (hb : 0 < bs) (h : Chain k xs bs n a) (hn : n < a + 2 * bs) (hm : a + bs < n) : SymPre k xs a (a + bs) n := by
  cases h with
  | last h1 h2 => omega
  | cons h1 h2 h3 h4 =>
    cases h4 with
    | last k1 k2 => exact ⟨h2, k2, h3⟩
    | cons k1 k2 k3 k4 => omega
theorem Chain.one {k : Int → Int} {xs : List Int} {bs n a : Int} (h : Chain k xs bs n a) (hm : n ≤ a + bs) : Srt k xs a n := by
  cases h with
  | last h1 h2 => exact h2
  | cons h1 h2 h3 h4 =>
    have e : n = a + bs := by omega
    rw [e]; exact h2
/-- a block done, the rest after it -/
theorem Chain.put {k : Int → Int} {xs ys zs : List Int} {bs n a : Int} (ha : 0 ≤ a) (hb : 0 ≤ bs) (h1 : a + bs ≤ n) (hy : Mv xs ys a (a + bs)) (hs : Srt k ys a (a + bs)) (hz : Mv ys zs (a + bs) n) (hc : Chain k zs bs n (a + bs))
    (hx : ∀ p q, a ≤ p → p < a + bs → a + bs ≤ q → q < n → nth xs p < nth xs q) : Chain k zs bs n a := by
  have o : ∀ p, a ≤ p → p < a + bs → nth zs p = nth ys p := fun p q1 q2 => hz.out p (by omega) (by omega)
  refine .cons h1 (hs.congr o) (fun p q k1 k2 k3 k4 => ?_) hc
  rw [o p k1 k2]
  obtain ⟨p', r1, r2, e1⟩ := hy.inn p k1 k2
  obtain ⟨q', r3, r4, e2⟩ := hz.inn q k3 k4
  rw [e1, e2, hy.out q' (by omega) (by omega)]
  exact hx p' q' r1 r2 r3 r4
end Go.Aev.M33
end
/- M33Stb2K -/
section
namespace Go.Aev.M33
open List
set_option maxRecDepth 1000000
set_option linter.unusedVariables false
theorem stbK_1 {cn : List Int} {n : Int} (hn : n ≤ 1073741824) {Q : V → Aev.Rows → Prop} : ∀ (d : Nat) (xs : List Int) (a : Int), (n - a).toNat = d → n = xs.length → (hd : ∀ x ∈ xs, 0 ≤ x ∧ x < cn.length) → 0 ≤ a → a ≤ n → Asc xs a n → (∀ ys, Mv xs ys a n → Chain (kyK cn) ys 20 n a → Ends c0 3 (HS2 ys.length ys (TK cn) n 20) Q) → Ends c0 3 (HS1 xs.length xs (TK cn) n 20 a (a + 20)) Q := by
  intro d
  induction d using Nat.strongRecOn with
  | _ d ih =>
    intro xs a hd' hl hd h0 h1 hA h
    by_cases hb : a + 20 ≤ n
    · refine stbK_blk hb (by unfold inInt; omega) (insK_does h0 (by omega) (by omega) (by omega) hd (fun p q k1 k2 k3 => hA p q k1 k2 (by omega))) fun ys hly hy => ?_
      rw [← hly]
      refine ih _ (by omega) ys (a + 20) rfl (by omega) (all_perm hy.1.perm hd) (by omega) hb (fun p q k1 k2 k3 => ?_) fun zs hz hc => ?_
      · rw [hy.1.out p (by omega) (by omega), hy.1.out q (by omega) (by omega)]; exact hA p q (by omega) k2 k3
      · exact h zs ((hy.1.mono h0 (Int.le_refl _) hb).trans (hz.mono h0 (by omega) (Int.le_refl _))) (.put h0 (by omega) hb hy.1 hy.2 hz hc fun p q k1 k2 k3 k4 => hA p q k1 (by omega) k4)
    · refine stbK_last (by omega) (insK_does h0 h1 (by omega) (by omega) hd hA) fun ys hly hy => ?_
      rw [← hly]
      exact h ys hy.1 (.last (by omega) hy.2)
theorem stbK_3 {cn : List Int} {n bs : Int} (hn : n ≤ 1073741824) (hb0 : 0 < bs) (hbn : bs < n) {Q : V → Aev.Rows → Prop} : ∀ (d : Nat) (xs : List Int) (a : Int), (n - a).toNat = d → n = xs.length → (hd : ∀ x ∈ xs, 0 ≤ x ∧ x < cn.length) → 0 ≤ a → a ≤ n → Chain (kyK cn) xs bs n a → (∀ ys, Mv xs ys a n → Chain (kyK cn) ys (2 * bs) n a → Ends c0 3 (HS2 ys.length ys (TK cn) n (bs * 2)) Q) → Ends c0 3 (HS3 xs.length xs (TK cn) n bs a (a + 2 * bs)) Q := by
  intro d
  induction d using Nat.strongRecOn with
  | _ d ih =>
    intro xs a hd' hl hd h0 h1 hC h
    by_cases hb : a + 2 * bs ≤ n
    · obtain ⟨c1, c2, c3⟩ := hC.two hb0 hb
      refine stbK_mrg hb (by unfold inInt; omega) (by unfold inInt; omega) (by unfold inInt; omega) (symK_does _ xs a (a + bs) (a + 2 * bs) rfl (by omega) hd h0 (by omega) (by omega) (by omega) c1) fun ys hly hy => ?_
      rw [← hly]
      refine ih _ (by omega) ys (a + 2 * bs) rfl (by omega) (all_perm hy.1.perm hd) (by omega) hb (c3.congr (by omega) fun p k1 k2 => hy.1.out p (by omega) (by omega)) fun zs hz hc => ?_
      exact h zs ((hy.1.mono h0 (Int.le_refl _) hb).trans (hz.mono h0 (by omega) (Int.le_refl _))) (.put h0 (by omega) hb hy.1 hy.2 hz hc c2)
    · by_cases hm : a + bs < n
      · refine stbK_tail (by omega) (by unfold inInt; omega) hm (by unfold inInt; omega) (symK_does _ xs a (a + bs) n rfl (by omega) hd h0 (by omega) hm (by omega) (hC.tail hb0 (by omega) hm)) fun ys hly hy => ?_
        rw [← hly]
        exact h ys hy.1 (.last (by omega) hy.2)
      · exact stbK_none (by omega) (by unfold inInt; omega) (by omega) (by unfold inInt; omega) (h xs (.refl _ _ _) (.last (by omega) (hC.one (by omega))))
theorem stbK_2 {cn : List Int} {n : Int} (hn : n ≤ 1073741824) {Q : V → Aev.Rows → Prop} : ∀ (d : Nat) (xs : List Int) (bs : Int), (n - bs).toNat = d → n = xs.length → (hd : ∀ x ∈ xs, 0 ≤ x ∧ x < cn.length) → 0 < bs → Chain (kyK cn) xs bs n 0 → (∀ ys, ys ~ xs → Srt (kyK cn) ys 0 n → Q (.tup []) (RW ys :: (TK cn))) → Ends c0 3 (HS2 xs.length xs (TK cn) n bs) Q := by
  intro d
  induction d using Nat.strongRecOn with
  | _ d ih =>
    intro xs bs hd' hl hd h0 hC h
    by_cases hb : bs < n
    · refine stbK_in hb (by unfold inInt; omega) ?_
      have := stbK_3 hn h0 hb (Q := Q) _ xs 0 rfl hl hd (Int.le_refl _) (by omega) hC fun ys hy hc => ih _ (by omega) ys (bs * 2) rfl (by rw [hy.len]; exact hl) (all_perm hy.perm hd) (by omega) (by rw [show bs * 2 = 2 * bs by omega]; exact hc) fun zs hz hs => h zs (hz.trans hy.perm) hs
      rw [Int.zero_add] at this
      exact this
    · exact stbK_end (by omega) (h xs (.refl _) (hC.one (by omega)))
theorem stbK_does {cn : List Int} {xs : List Int} (hn : xs.length ≤ 1073741824) (hd : ∀ x ∈ xs, 0 ≤ x ∧ x < cn.length) (hA : Asc xs 0 xs.length) : SortDoes 74 3 [I xs.length] (TK cn) xs (fun ys => ys ~ xs ∧ Srt (kyK cn) ys 0 xs.length) := by
  refine does_of (c := cS) cS_ok (by kernel_rfl) (Ends.cfg rfl (c := c0) ?_)
  show Ends c0 3 (s74 xs (TK cn) xs.length) _
  refine stbK_go ?_
  have := stbK_1 (n := (xs.length : Int)) (by omega) (Q := fun v rows => ∃ xs', xs'.length = xs.length ∧ (xs' ~ xs ∧ Srt (kyK cn) xs' 0 xs.length) ∧ v = .tup [] ∧ rows = RW xs' :: (TK cn)) _ xs 0 rfl rfl hd (Int.le_refl _) (by omega) hA fun ys hy hc =>
    stbK_2 (by omega) _ ys 20 rfl (by rw [hy.len]) (all_perm hy.perm hd) (by omega) hc fun zs hz hs => ⟨zs, (hz.trans hy.perm).length_eq, ⟨hz.trans hy.perm, hs⟩, rfl, rfl⟩
  exact this
end Go.Aev.M33
end
/- M33SrtK -/
section
namespace Go.Aev.M33
set_option maxRecDepth 1000000
set_option linter.unusedSimpArgs false
set_option linter.unusedVariables false
theorem srtK {cn : List Int} {xs : List Int} {P : List Int → Prop} {Q : V → Aev.Rows → Prop}  (hd : SortDoes 74 3 [I xs.length] (TK cn) (xs) (P)) (h : ∀ xs' : List Int, xs'.length = (xs).length → (P) xs' → Q (.tup []) (RW xs' :: (TK cn))) : Ends c0 3 (start cS 43 [SL 0 xs, CC] (RW xs :: (TK cn))) Q :=
  Ends.cfg rfl (Ends.to (c := cS) cS_ok (gds []) (atOp 5 3) 300 (s' := (nextOf (sTo cS (gds []) (atOp 5 3) 300 (start cS 43 [SL 0 xs, CC] (RW xs :: (TK cn)))))) (ps := []) (by kernel_rfl) (by
    (try simp only [AllP, Int.toNat_natCast, ints_len, decide_eq_true_eq, decide_eq_false_iff_not, beq_eq_false_iff_ne, beq_iff_eq, bne_iff_ne, bne_eq_false_iff_eq, Bool.not_eq_true', Bool.not_eq_false', Int.not_lt, Int.not_le, gt_iff_lt, ge_iff_le, ne_eq, and_true, true_and, unI_ints, Nat.zero_add, List.length_set, Nat.le_refl])
    all_goals (repeat' (first | with_reducible assumption | with_reducible rfl | omega | with_reducible exact ints_get (by omega) | with_reducible apply And.intro | unfold inInt | with_reducible exact isInts_ints _)))
    (Ends.callS (args := [I xs.length]) (T := (TK cn)) (xs := xs) (rs := [0, 1, 2]) cS_ok rfl (by kernel_rfl) hd (fun xs' => by kernel_rfl) fun xs' hl' hp' =>
    Ends.fin (c := cS) cS_ok (gds []) 300 (ps := []) (v := .tup []) (rows := RW xs' :: (TK cn)) (by kernel_rfl) (by
    (try simp only [AllP, Int.toNat_natCast, ints_len, decide_eq_true_eq, decide_eq_false_iff_not, beq_eq_false_iff_ne, beq_iff_eq, bne_iff_ne, bne_eq_false_iff_eq, Bool.not_eq_true', Bool.not_eq_false', Int.not_lt, Int.not_le, gt_iff_lt, ge_iff_le, ne_eq, and_true, true_and, unI_ints, Nat.zero_add, List.length_set, Nat.le_refl])
    all_goals (repeat' (first | with_reducible assumption | with_reducible rfl | omega | with_reducible exact ints_get (by omega) | with_reducible apply And.intro | unfold inInt | with_reducible exact isInts_ints _))) (h xs' hl' hp')))
theorem srtK_does {cn : List Int} {xs : List Int} (hn : xs.length ≤ 1073741824) (hd : ∀ x ∈ xs, 0 ≤ x ∧ x < cn.length) (hA : Asc xs 0 xs.length) : SortDoes 43 3 [] (TK cn) xs (fun ys => List.Perm ys xs ∧ Srt (kyK cn) ys 0 xs.length) :=
  does_of (c := cS) cS_ok (by kernel_rfl) (Ends.cfg rfl (c := c0) (srtK (stbK_does hn hd hA) fun ys hl hp => ⟨ys, hl, hp, rfl, rfl⟩))
end Go.Aev.M33
end
/- M33Ins2N -/
section
namespace Go.Aev.M33
open List
set_option maxRecDepth 1000000
set_option linter.unusedVariables false
theorem insN_inner {lo hi : Int} (h0 : 0 ≤ lo) {Q : V → Aev.Rows → Prop} : ∀ (n : Nat) (xs : List Int) (i j : Int), hi ≤ xs.length → xs.length ≤ 1073741824 → (hd : True) → (j - lo).toNat = n → lo ≤ j → j ≤ i → lo < i → i < hi → InsI kyN xs lo hi i j →
    (∀ ys, Mv xs ys lo hi → InsO kyN ys lo hi (i + 1) → Ends c0 2 (H113o ys TN lo hi (i + 1)) Q) → Ends c0 2 (H113i xs.length (ints xs) TN lo hi i j) Q := by
  intro n
  induction n with
  | zero =>
    intro xs i j hl hn hd hm h1 h2 h3 h4 hI h
    obtain rfl : j = lo := by omega
    exact insN_bot (Int.le_refl _) (by unfold inInt; omega) (h xs (.refl _ _ _) hI.bot)
  | succ n ih =>
    intro xs i j hl hn hd hm h1 h2 h3 h4 hI h
    by_cases hc : kyN (nth xs j) < kyN (nth xs (j - 1))
    · refine insN_swap (by omega) h0 (by omega) hn (cmpI_lt.2 hc) ?_
      rw [ints_sw]
      have := ih (sw xs j (j - 1)) i (j - 1) (by rw [sw_len]; exact hl) (by rw [sw_len]; exact hn) trivial (by omega) (by omega) (by omega) h3 h4 (hI.swap h0 (by omega) h2 h4 hl hc)
        (fun ys hy ho => h ys ((Mv.sw h0 (by omega) (by omega) (by omega) (by omega) hl).trans hy) ho)
      rw [sw_len] at this
      exact this
    · exact insN_stay (by omega) h0 (by omega) hn (cmpI_ge.2 (Int.not_lt.1 hc)) (by unfold inInt; omega) (h xs (.refl _ _ _) (hI.stay (by omega) h2 (by omega)))
theorem insN_outer {lo hi : Int} (h0 : 0 ≤ lo) {Q : V → Aev.Rows → Prop} : ∀ (n : Nat) (xs : List Int) (i : Int), hi ≤ xs.length → xs.length ≤ 1073741824 → (hd : True) → (hi - i).toNat = n → lo < i → InsO kyN xs lo hi i →
    (∀ ys, Mv xs ys lo hi → Srt kyN ys lo hi → Q (.tup []) (RW ys :: TN)) → Ends c0 2 (H113o xs TN lo hi i) Q := by
  intro n
  induction n with
  | zero =>
    intro xs i hl hn hd hm h1 hO h
    exact insN_end (by omega) (h xs (.refl _ _ _) (hO.fin (by omega)))
  | succ n ih =>
    intro xs i hl hn hd hm h1 hO h
    refine insN_in (by omega) (insN_inner h0 _ xs i i hl hn hd rfl (by omega) (Int.le_refl _) h1 (by omega) (hO.inn h1 (by omega)) fun ys hy ho => ?_)
    exact ih ys (i + 1) (by rw [hy.len]; exact hl) (by rw [hy.len]; exact hn) trivial (by omega) (by omega) ho (fun zs hz hs => h zs (hy.trans hz) hs)
theorem insN_does {xs : List Int} {lo hi : Int} (h0 : 0 ≤ lo) (h1 : lo ≤ hi) (h2 : hi ≤ xs.length) (h3 : xs.length ≤ 1073741824) (hd : True) (h4 : Asc xs lo hi) : SortDoes 113 2 [I lo, I hi] TN xs (fun ys => Mv xs ys lo hi ∧ Srt kyN ys lo hi) :=
  does_of (c := cS) cS_ok (by kernel_rfl) (Ends.cfg rfl (insN_go (by unfold inInt; omega) (insN_outer h0 _ xs (lo + 1) h2 h3 hd rfl (by omega) (.start h4) fun ys hy hs => ⟨ys, hy.len, ⟨hy, hs⟩, rfl, rfl⟩)))

theorem swpN_loop {xs : List Int} {a b n : Int} (ha : 0 ≤ a) (hab : a + n ≤ b) (hb : b + n ≤ xs.length) (hn : xs.length ≤ 1073741824) {Q : V → Aev.Rows → Prop} (h : ∀ ys, ys ~ xs → SwR xs ys a b n → Q (.tup []) (RW ys :: TN)) : ∀ (d : Nat) (ys : List Int) (i : Int), (n - i).toNat = d → 0 ≤ i → i ≤ n → ys ~ xs → SwR xs ys a b i → Ends c0 2 (H182 ys.length (ints ys) TN a b n i) Q := by
  intro d
  induction d with
  | zero =>
    intro ys i hd h1 h2 hp hs
    obtain rfl : i = n := by omega
    exact swpN_end (Int.le_refl _) (h ys hp hs)
  | succ d ih =>
    intro ys i hd h1 h2 hp hs
    have hl := hp.length_eq
    refine swpN_turn (by omega) h1 ha (by omega) (by omega) (by omega) (by omega) ?_
    rw [ints_sw]
    have := ih (sw ys (a + i) (b + i)) (i + 1) (by omega) (by omega) (by omega) ((sw_perm (by omega) (by omega) (by omega) (by omega)).trans hp) (hs.next ha h1 (by omega) (by omega) hl)
    rw [sw_len] at this
    exact this
theorem swpN_does {xs : List Int} {a b n : Int} (ha : 0 ≤ a) (h0 : 0 ≤ n) (hab : a + n ≤ b) (hb : b + n ≤ xs.length) (hn : xs.length ≤ 1073741824) : SortDoes 182 2 [I a, I b, I n] TN xs (fun ys => ys ~ xs ∧ SwR xs ys a b n) :=
  does_of (c := cS) cS_ok (by kernel_rfl) (Ends.cfg rfl (swpN_go (swpN_loop ha hab hb hn (fun ys hp hs => ⟨ys, hp.length_eq, ⟨hp, hs⟩, rfl, rfl⟩) _ xs 0 rfl (by omega) h0 (.refl _) (.zero _ _ _))))
theorem rotN_loop {m : Int} {Q : V → Aev.Rows → Prop} : ∀ (d : Nat) (xs : List Int) (i j : Int), (i + j).toNat = d → 0 < i → 0 < j → 0 ≤ m - i → m + j ≤ xs.length → xs.length ≤ 1073741824 →
    (∀ ys, Rot xs ys (m - i) m (m + j) → Q (.tup []) (RW ys :: TN)) → Ends c0 2 (H161 xs.length xs TN m i j) Q := by
  intro d
  induction d using Nat.strongRecOn with
  | _ d ih =>
    intro xs i j hd hi hj h1 h2 hn h
    rcases Int.lt_trichotomy i j with hij | hij | hij
    · refine rotN_right hij (by unfold inInt; omega) (by unfold inInt; omega) (by unfold inInt; omega) (by unfold inInt; omega) (swpN_does h1 (by omega) (by omega) (by omega) hn) fun ys hl hp => ?_
      rw [← hl]
      exact ih (i + (j - i)).toNat (by omega) ys i (j - i) rfl hi (by omega) h1 (by omega) (by omega) fun zs hz => h zs (Rot.right_step hp.1 h1 (by omega) hij hp.2 hz)
    · subst hij
      exact rotN_end rfl (by unfold inInt; omega) (swpN_does h1 (by omega) (by omega) (by omega) hn) fun ys hl hp => h ys (Rot.of_swap hp.1 h1 hp.2 (by omega))
    · refine rotN_left hij (by unfold inInt; omega) (by unfold inInt; omega) (swpN_does h1 (by omega) (by omega) (by omega) hn) fun ys hl hp => ?_
      rw [← hl]
      exact ih (i - j + j).toNat (by omega) ys (i - j) j rfl (by omega) hj (by omega) (by omega) (by omega) fun zs hz => h zs (Rot.left_step hp.1 h1 (by omega) hij hp.2 hz)
theorem rotN_does {xs : List Int} {a m b : Int} (ha : 0 ≤ a) (h1 : a < m) (h2 : m < b) (hb : b ≤ xs.length) (hn : xs.length ≤ 1073741824) : SortDoes 161 2 [I a, I m, I b] TN xs (fun ys => Rot xs ys a m b) :=
  does_of (c := cS) cS_ok (by kernel_rfl) (Ends.cfg rfl (rotN_go (by unfold inInt; omega) (by unfold inInt; omega) (rotN_loop _ xs (m - a) (b - m) rfl (by omega) (by omega) (by omega) (by omega) hn fun ys hy => by
    rw [show m - (m - a) = a by omega, show m + (b - m) = b by omega] at hy
    exact ⟨ys, hy.perm.length_eq, hy, rfl, rfl⟩)))
end Go.Aev.M33
end
/- M33Sym3N -/
section
namespace Go.Aev.M33
open List
set_option maxRecDepth 1000000
set_option linter.unusedVariables false
theorem symN_Aloop {xs : List Int} {a m b : Int} (ha : 0 ≤ a) (ham : a < m) (hb : b ≤ xs.length) (hn : xs.length ≤ 1073741824) (hd : True) (hr : Srt kyN xs m b) {Q : V → Aev.Rows → Prop} (h : ∀ i, SA kyN xs a m b i i → Ends c0 2 (HAs xs.length (ints xs) TN i a) Q) : ∀ (d : Nat) (i j : Int), (j - i).toNat = d → SA kyN xs a m b i j → Ends c0 2 (HA xs.length xs TN a m b i j) Q := by
  intro d
  induction d using Nat.strongRecOn with
  | _ d ih =>
    intro i j hd' s
    have s1 := s.h1; have s2 := s.h2; have s3 := s.h3
    by_cases hij : i < j
    · have e := hf_eq (x := i + j) (by omega) (by omega)
      by_cases hc : kyN (nth xs (hf (i + j))) < kyN (nth xs a)
      · exact symN_A_lt rfl hij (by unfold inInt; omega) (by omega) (by omega) (by omega) (by omega) (cmpI_lt.2 hc) (by unfold inInt; omega) (ih _ (by omega) _ _ rfl (s.lt hr (by omega) (by omega) hc))
      · exact symN_A_ge rfl hij (by unfold inInt; omega) (by omega) (by omega) (by omega) (by omega) (cmpI_ge.2 (Int.not_lt.1 hc)) (ih _ (by omega) _ _ rfl (s.ge hr (by omega) (by omega) (Int.not_lt.1 hc)))
    · obtain rfl : i = j := by omega
      exact symN_A_done (Int.le_refl _) (h i s)
theorem symN_Aswap {xs : List Int} {a i : Int} (ha : 0 ≤ a) (hi : i ≤ xs.length) (hn : xs.length ≤ 1073741824) {Q : V → Aev.Rows → Prop} (h : ∀ ys, Rot xs ys a (a + 1) i → Q (.tup []) (RW ys :: TN)) : ∀ (d : Nat) (zs : List Int) (t : Int), (i - 1 - t).toNat = d → a ≤ t → t ≤ i - 1 → Rot xs zs a (a + 1) (t + 1) → Ends c0 2 (HAs zs.length (ints zs) TN i t) Q := by
  intro d
  induction d with
  | zero =>
    intro zs t hd h1 h2 hr
    obtain rfl : t = i - 1 := by omega
    rw [show i - 1 + 1 = i by omega] at hr
    exact symN_A_end (by unfold inInt; omega) (Int.le_refl _) (h zs hr)
  | succ d ih =>
    intro zs t hd h1 h2 hr
    have hl := hr.perm.length_eq
    refine symN_A_swap rfl (by omega) (by unfold inInt; omega) (by omega) (by omega) (by omega) ?_
    rw [ints_sw]
    have := ih (sw zs t (t + 1)) (t + 1) (by omega) (by omega) (by omega) (hr.up ha h1 (by omega))
    rw [sw_len] at this
    exact this
theorem symN_Bloop {xs : List Int} {a m b : Int} (ha : 0 ≤ a) (hb : m < xs.length) (hn : xs.length ≤ 1073741824) (hd : True) (hr : Srt kyN xs a m) {Q : V → Aev.Rows → Prop} (h : ∀ i, SB kyN xs a m i i → Ends c0 2 (HBs xs.length (ints xs) TN i m) Q) : ∀ (d : Nat) (i j : Int), (j - i).toNat = d → SB kyN xs a m i j → Ends c0 2 (HB xs.length xs TN a m b i j) Q := by
  intro d
  induction d using Nat.strongRecOn with
  | _ d ih =>
    intro i j hd' s
    have s1 := s.h1; have s2 := s.h2; have s3 := s.h3
    by_cases hij : i < j
    · have e := hf_eq (x := i + j) (by omega) (by omega)
      by_cases hc : kyN (nth xs m) < kyN (nth xs (hf (i + j)))
      · exact symN_B_lt rfl hij (by unfold inInt; omega) (by omega) (by omega) (by omega) (by omega) (cmpI_lt.2 hc) (ih _ (by omega) _ _ rfl (s.lt hr (by omega) (by omega) hc))
      · exact symN_B_ge rfl hij (by unfold inInt; omega) (by omega) (by omega) (by omega) (by omega) (cmpI_ge.2 (Int.not_lt.1 hc)) (by unfold inInt; omega) (ih _ (by omega) _ _ rfl (s.ge hr (by omega) (by omega) (Int.not_lt.1 hc)))
    · obtain rfl : i = j := by omega
      exact symN_B_done (Int.le_refl _) (h i s)
theorem symN_Bswap {xs : List Int} {m i : Int} (hi0 : 0 ≤ i) (hm : m < xs.length) (hn : xs.length ≤ 1073741824) {Q : V → Aev.Rows → Prop} (h : ∀ ys, Rot xs ys i m (m + 1) → Q (.tup []) (RW ys :: TN)) : ∀ (d : Nat) (zs : List Int) (t : Int), (t - i).toNat = d → i ≤ t → t ≤ m → Rot xs zs t m (m + 1) → Ends c0 2 (HBs zs.length (ints zs) TN i t) Q := by
  intro d
  induction d with
  | zero =>
    intro zs t hd h1 h2 hr
    obtain rfl : t = i := by omega
    exact symN_B_end (Int.le_refl _) (h zs hr)
  | succ d ih =>
    intro zs t hd h1 h2 hr
    have hl := hr.perm.length_eq
    refine symN_B_swap rfl (by omega) (by omega) (by omega) (by omega) ?_
    rw [ints_sw]
    have := ih (sw zs t (t - 1)) (t - 1) (by omega) (by omega) (by omega) (hr.down (by omega) h2 (by omega))
    rw [sw_len] at this
    exact this
theorem symN_Cloop {xs : List Int} {a m b mid nn s0 r0 : Int} (ha : 0 ≤ a) (hm : m ≤ b) (hb : b ≤ xs.length) (hn : xs.length ≤ 1073741824) (hd : True) (hp : SymPre kyN xs a m b) (hs0 : a ≤ s0) (hr0 : r0 ≤ m) {Q : V → Aev.Rows → Prop} (h : ∀ st, SCut kyN xs a m b s0 r0 nn st st → Ends c0 2 (HD1 xs.length xs TN a m b mid st (nn - st)) Q) (hnn : inInt nn) (hnn0 : 0 ≤ nn) : ∀ (d : Nat) (st r : Int), (r - st).toNat = d → SCut kyN xs a m b s0 r0 nn st r → Ends c0 2 (HCs xs.length xs TN a m b mid nn st r (nn - 1)) Q := by
  intro d
  unfold inInt at hnn
  induction d using Nat.strongRecOn with
  | _ d ih =>
    intro i j hd' s
    have s1 := s.h1; have s2 := s.h2; have s3 := s.h3
    by_cases hij : i < j
    · have e := hf_eq (x := i + j) (by omega) (by omega)
      obtain ⟨g1, g2, g3, g4⟩ := s.rg (hf (i + j)) (by omega) (by omega)
      by_cases hc : kyN (nth xs (nn - 1 - hf (i + j))) < kyN (nth xs (hf (i + j)))
      · exact symN_C_lt rfl hij (by unfold inInt; omega) (by unfold inInt; omega) (by omega) (by omega) (by omega) (by omega) (cmpI_lt.2 hc) (ih _ (by omega) _ _ rfl (s.lt hp (by omega) (by omega) hc))
      · exact symN_C_ge rfl hij (by unfold inInt; omega) (by unfold inInt; omega) (by omega) (by omega) (by omega) (by omega) (cmpI_ge.2 (Int.not_lt.1 hc)) (by unfold inInt; omega) (ih _ (by omega) _ _ rfl (s.ge hp (by omega) (by omega) (Int.not_lt.1 hc)))
    · obtain rfl : i = j := by omega
      exact symN_C_done (Int.le_refl _) (by unfold inInt; omega) (h i s)
/-- what symMerge does -/
def SymN (xs : List Int) (a m b : Int) : Prop := SortDoes 114 2 [I a, I m, I b] TN xs (fun ys => Mv xs ys a b ∧ Srt kyN ys a b)
theorem symN_D {xs : List Int} {a m b mid st en : Int} (ha : 0 ≤ a) (hb : b ≤ xs.length) (hn : xs.length ≤ 1073741824) (hd : True) (hp : SymPre kyN xs a m b) (hc : Cut kyN xs a m b st en) (hmid : mid = st + (en - m)) (h1 : a < mid) (h2 : mid < b)
    (ih : ∀ (ys : List Int) (c n e : Int), ys.length ≤ 1073741824 → (hd : True) → 0 ≤ c → c < n → n < e → e ≤ ys.length → e - c < b - a → SymPre kyN ys c n e → SymN ys c n e) {Q : V → Aev.Rows → Prop} (h : ∀ ys, Mv xs ys a b → Srt kyN ys a b → Q (.tup []) (RW ys :: TN)) : Ends c0 2 (HD1 xs.length xs TN a m b mid st en) Q := by
  have g1 := hc.h1; have g2 := hc.h2; have g3 := hc.h3; have g4 := hc.h4
  have k2 : ∀ ys, Rot xs ys st m en → Ends c0 2 (HD2 ys.length ys TN a m b mid st en) Q := by
    intro ys hr
    have hl := hr.perm.length_eq
    have hdy := trivial
    obtain ⟨p1, p2, p3, p4⟩ := hc.rot hp ha hmid hr
    have k3 : ∀ zs, Mv ys zs a mid → Srt kyN zs a mid → Ends c0 2 (HD3 zs.length zs TN a m b mid st en) Q := by
      intro zs hz hs
      have hlz := hz.len
      have hdz := trivial
      have o : ∀ p, mid ≤ p → nth zs p = nth ys p := fun p hq => hz.out p (by omega) (by omega)
      have p2' : SymPre kyN zs mid en b := ⟨p2.l.congr fun p q1 q2 => o p q1, p2.r.congr fun p q1 q2 => o p (by omega), fun p q q1 q2 q3 q4 => by rw [o p q1, o q (by omega)]; exact p2.x p q q1 q2 q3 q4⟩
      have k4 : ∀ ws, Mv zs ws mid b → Srt kyN ws mid b → Q (.tup []) (RW ws :: TN) := by
        intro ws hw hws
        have ow : ∀ p, a ≤ p → p < mid → nth ws p = nth zs p := fun p q1 q2 => hw.out p (by omega) (by omega)
        refine h ws (p4.trans ((hz.mono ha (Int.le_refl _) (by omega)).trans (hw.mono ha (by omega) (Int.le_refl _)))) ?_
        refine Srt.join (hs.congr ow) hws fun p q q1 q2 q3 q4 => ?_
        rw [ow p q1 q2]
        obtain ⟨p', r1, r2, e1⟩ := hz.inn p q1 q2
        obtain ⟨q', r3, r4, e2⟩ := hw.inn q q3 q4
        rw [e1, e2, o q' r3]
        exact p3 p' q' r1 r2 r3 r4
      by_cases c1 : mid < en
      · by_cases c2 : en < b
        · exact symN_D3_yes c1 c2 (ih zs mid en b (by omega) hdz (by omega) c1 c2 (by omega) (by omega) p2') fun ws _ hw => k4 ws hw.1 hw.2
        · exact symN_D3_no2 c1 (by omega) (k4 zs (.refl _ _ _) (by rw [show b = en by omega]; exact p2'.l))
      · exact symN_D3_no1 (by omega) (k4 zs (.refl _ _ _) (by rw [show mid = en by omega]; exact p2'.r))
    by_cases c1 : a < st
    · by_cases c2 : st < mid
      · exact symN_D2_yes c1 c2 (ih ys a st mid (by omega) hdy ha c1 c2 (by omega) (by omega) p1) fun zs hl' hz => by rw [← hl']; exact k3 zs hz.1 hz.2
      · exact symN_D2_no2 c1 (by omega) (k3 ys (.refl _ _ _) (by rw [show mid = st by omega]; exact p1.l))
    · exact symN_D2_no1 (by omega) (k3 ys (.refl _ _ _) (by rw [show a = st by omega]; exact p1.r))
  by_cases c1 : st < m
  · by_cases c2 : m < en
    · exact symN_D1_yes c1 c2 (rotN_does (by omega) c1 c2 (by omega) hn) fun ys hl hr => by rw [← hl]; exact k2 ys hr
    · have e : en = m := by omega
      exact symN_D1_no2 c1 (by omega) (k2 xs (by rw [e]; exact .refl_l _ _ _))
  · have e : st = m := by omega
    exact symN_D1_no1 (by omega) (k2 xs (by rw [e]; exact .refl_r _ _ _))
theorem symN_does : ∀ (d : Nat) (xs : List Int) (a m b : Int), (b - a).toNat = d → xs.length ≤ 1073741824 → (hd : True) → 0 ≤ a → a < m → m < b → b ≤ xs.length → SymPre kyN xs a m b → SymN xs a m b := by
  intro d
  induction d using Nat.strongRecOn with
  | _ d ih =>
    intro xs a m b hd' hn hd ha h1 h2 hb hp
    refine does_of (c := cS) cS_ok (by kernel_rfl) (Ends.cfg rfl (c := c0) ?_)
    show Ends c0 2 (s114 xs.length xs TN a m b) _
    by_cases c1 : m - a = 1
    · obtain rfl : m = a + 1 := by omega
      refine symN_A (by unfold inInt; omega) c1 (symN_Aloop ha h1 hb hn hd hp.r (fun i s => ?_) _ (a + 1) b rfl ⟨Int.le_refl _, by omega, Int.le_refl _, fun q k1 k2 => by omega, fun q k1 k2 => by omega⟩)
      have s1 := s.h1; have s3 := s.h3
      refine symN_Aswap (xs := xs) ha (by omega) hn (fun ys hr => ⟨ys, hr.perm.length_eq, ⟨(hr.mv ha (by omega) (by omega)).mono ha (Int.le_refl _) s3, s.fin hp ha hr⟩, rfl, rfl⟩) _ xs a rfl (Int.le_refl _) (by omega) (.refl_l _ _ _)
    · by_cases c2 : b - m = 1
      · obtain rfl : b = m + 1 := by omega
        refine symN_B (by unfold inInt; omega) c1 (by unfold inInt; omega) c2 (symN_Bloop ha (by omega) hn hd hp.l (fun i s => ?_) _ a m rfl ⟨Int.le_refl _, by omega, Int.le_refl _, fun q k1 k2 => by omega, fun q k1 k2 => by omega⟩)
        have s1 := s.h1; have s3 := s.h3
        refine symN_Bswap (xs := xs) (by omega) (by omega) hn (fun ys hr => ⟨ys, hr.perm.length_eq, ⟨(hr.mv (by omega) (by omega) (by omega)).mono ha s1 (Int.le_refl _), s.fin hp ha hr⟩, rfl, rfl⟩) _ xs m rfl s3 (Int.le_refl _) (.refl_r _ _ _)
      · have e := hf_eq (x := a + b) (by omega) (by omega)
        have fin : ∀ s0 r0 st, SCut kyN xs a m b s0 r0 (hf (a + b) + m) st st → a ≤ s0 → r0 ≤ m → (s0 = a ∨ hf (a + b) + m - s0 = b) → (r0 = m ∨ hf (a + b) + m - r0 = m) → Ends c0 2 (HD1 xs.length xs TN a m b (hf (a + b)) st (hf (a + b) + m - st)) (fun v rows => ∃ xs', xs'.length = xs.length ∧ (Mv xs xs' a b ∧ Srt kyN xs' a b) ∧ v = .tup [] ∧ rows = RW xs' :: TN) := by
          intro s0 r0 st s k1 k2 k3 k4
          have s1 := s.h1; have s3 := s.h3
          have hle : hf (a + b) + m - st ≤ b := by
            by_cases he : s0 < r0
            · have := s.rg s0 (Int.le_refl _) he; omega
            · omega
          have hge : m ≤ hf (a + b) + m - st := by
            by_cases he : s0 < r0
            · have := s.rg (r0 - 1) (by omega) (by omega); omega
            · omega
          exact symN_D ha hb hn hd hp (s.cut hp (by omega) (by omega) hge hle k3 k4) (by omega) (by omega) (by omega) (fun ys c n e q1 q2 q3 q4 q5 q6 q7 q8 => ih _ (by omega) ys c n e rfl q1 q2 q3 q4 q5 q6 q8) fun ys hy hs => ⟨ys, hy.len, ⟨hy, hs⟩, rfl, rfl⟩
        by_cases c3 : hf (a + b) < m
        · exact symN_C1 (by unfold inInt; omega) c1 (by unfold inInt; omega) c2 (by unfold inInt; omega) (by unfold inInt; omega) (by unfold inInt; omega) c3 (by unfold inInt; omega)
            (symN_Cloop ha (by omega) hb hn hd hp (by omega) (by omega) (fun st s => fin _ _ st s (by omega) (by omega) (.inr (by omega)) (.inr (by omega))) (by unfold inInt; omega) (by omega) _ (hf (a + b) + m - b) (hf (a + b)) rfl
              ⟨Int.le_refl _, by omega, Int.le_refl _, fun c q1 q2 => by omega, fun c q1 q2 => by omega, fun c q1 q2 => by omega⟩)
        · exact symN_C2 (by unfold inInt; omega) c1 (by unfold inInt; omega) c2 (by unfold inInt; omega) (by unfold inInt; omega) (by unfold inInt; omega) (by omega)
            (symN_Cloop ha (by omega) hb hn hd hp (by omega) (by omega) (fun st s => fin _ _ st s (by omega) (by omega) (.inl rfl) (.inl rfl)) (by unfold inInt; omega) (by omega) _ a m rfl
              ⟨Int.le_refl _, by omega, Int.le_refl _, fun c q1 q2 => by omega, fun c q1 q2 => by omega, fun c q1 q2 => by omega⟩)
end Go.Aev.M33
end
/- M33Stb2N -/
section
namespace Go.Aev.M33
open List
set_option maxRecDepth 1000000
set_option linter.unusedVariables false
theorem stbN_1 {n : Int} (hn : n ≤ 1073741824) {Q : V → Aev.Rows → Prop} : ∀ (d : Nat) (xs : List Int) (a : Int), (n - a).toNat = d → n = xs.length → (hd : True) → 0 ≤ a → a ≤ n → Asc xs a n → (∀ ys, Mv xs ys a n → Chain kyN ys 20 n a → Ends c0 2 (HS2 ys.length ys TN n 20) Q) → Ends c0 2 (HS1 xs.length xs TN n 20 a (a + 20)) Q := by
  intro d
  induction d using Nat.strongRecOn with
  | _ d ih =>
    intro xs a hd' hl hd h0 h1 hA h
    by_cases hb : a + 20 ≤ n
    · refine stbN_blk hb (by unfold inInt; omega) (insN_does h0 (by omega) (by omega) (by omega) hd (fun p q k1 k2 k3 => hA p q k1 k2 (by omega))) fun ys hly hy => ?_
      rw [← hly]
      refine ih _ (by omega) ys (a + 20) rfl (by omega) trivial (by omega) hb (fun p q k1 k2 k3 => ?_) fun zs hz hc => ?_
      · rw [hy.1.out p (by omega) (by omega), hy.1.out q (by omega) (by omega)]; exact hA p q (by omega) k2 k3
      · exact h zs ((hy.1.mono h0 (Int.le_refl _) hb).trans (hz.mono h0 (by omega) (Int.le_refl _))) (.put h0 (by omega) hb hy.1 hy.2 hz hc fun p q k1 k2 k3 k4 => hA p q k1 (by omega) k4)
    · refine stbN_last (by omega) (insN_does h0 h1 (by omega) (by omega) hd hA) fun ys hly hy => ?_
      rw [← hly]
      exact h ys hy.1 (.last (by omega) hy.2)
theorem stbN_3 {n bs : Int} (hn : n ≤ 1073741824) (hb0 : 0 < bs) (hbn : bs < n) {Q : V → Aev.Rows → Prop} : ∀ (d : Nat) (xs : List Int) (a : Int), (n - a).toNat = d → n = xs.length → (hd : True) → 0 ≤ a → a ≤ n → Chain kyN xs bs n a → (∀ ys, Mv xs ys a n → Chain kyN ys (2 * bs) n a → Ends c0 2 (HS2 ys.length ys TN n (bs * 2)) Q) → Ends c0 2 (HS3 xs.length xs TN n bs a (a + 2 * bs)) Q := by
  intro d
  induction d using Nat.strongRecOn with
  | _ d ih =>
    intro xs a hd' hl hd h0 h1 hC h
    by_cases hb : a + 2 * bs ≤ n
    · obtain ⟨c1, c2, c3⟩ := hC.two hb0 hb
      refine stbN_mrg hb (by unfold inInt; omega) (by unfold inInt; omega) (by unfold inInt; omega) (symN_does _ xs a (a + bs) (a + 2 * bs) rfl (by omega) hd h0 (by omega) (by omega) (by omega) c1) fun ys hly hy => ?_
      rw [← hly]
      refine ih _ (by omega) ys (a + 2 * bs) rfl (by omega) trivial (by omega) hb (c3.congr (by omega) fun p k1 k2 => hy.1.out p (by omega) (by omega)) fun zs hz hc => ?_
      exact h zs ((hy.1.mono h0 (Int.le_refl _) hb).trans (hz.mono h0 (by omega) (Int.le_refl _))) (.put h0 (by omega) hb hy.1 hy.2 hz hc c2)
    · by_cases hm : a + bs < n
      · refine stbN_tail (by omega) (by unfold inInt; omega) hm (by unfold inInt; omega) (symN_does _ xs a (a + bs) n rfl (by omega) hd h0 (by omega) hm (by omega) (hC.tail hb0 (by omega) hm)) fun ys hly hy => ?_
        rw [← hly]
        exact h ys hy.1 (.last (by omega) hy.2)
      · exact stbN_none (by omega) (by unfold inInt; omega) (by omega) (by unfold inInt; omega) (h xs (.refl _ _ _) (.last (by omega) (hC.one (by omega))))
theorem stbN_2 {n : Int} (hn : n ≤ 1073741824) {Q : V → Aev.Rows → Prop} : ∀ (d : Nat) (xs : List Int) (bs : Int), (n - bs).toNat = d → n = xs.length → (hd : True) → 0 < bs → Chain kyN xs bs n 0 → (∀ ys, ys ~ xs → Srt kyN ys 0 n → Q (.tup []) (RW ys :: TN)) → Ends c0 2 (HS2 xs.length xs TN n bs) Q := by
  intro d
  induction d using Nat.strongRecOn with
  | _ d ih =>
    intro xs bs hd' hl hd h0 hC h
    by_cases hb : bs < n
    · refine stbN_in hb (by unfold inInt; omega) ?_
      have := stbN_3 hn h0 hb (Q := Q) _ xs 0 rfl hl hd (Int.le_refl _) (by omega) hC fun ys hy hc => ih _ (by omega) ys (bs * 2) rfl (by rw [hy.len]; exact hl) trivial (by omega) (by rw [show bs * 2 = 2 * bs by omega]; exact hc) fun zs hz hs => h zs (hz.trans hy.perm) hs
      rw [Int.zero_add] at this
      exact this
    · exact stbN_end (by omega) (h xs (.refl _) (hC.one (by omega)))
theorem stbN_does {xs : List Int} (hn : xs.length ≤ 1073741824) (hd : True) (hA : Asc xs 0 xs.length) : SortDoes 74 2 [I xs.length] TN xs (fun ys => ys ~ xs ∧ Srt kyN ys 0 xs.length) := by
  refine does_of (c := cS) cS_ok (by kernel_rfl) (Ends.cfg rfl (c := c0) ?_)
  show Ends c0 2 (s74 xs TN xs.length) _
  refine stbN_go ?_
  have := stbN_1 (n := (xs.length : Int)) (by omega) (Q := fun v rows => ∃ xs', xs'.length = xs.length ∧ (xs' ~ xs ∧ Srt kyN xs' 0 xs.length) ∧ v = .tup [] ∧ rows = RW xs' :: TN) _ xs 0 rfl rfl hd (Int.le_refl _) (by omega) hA fun ys hy hc =>
    stbN_2 (by omega) _ ys 20 rfl (by rw [hy.len]) trivial (by omega) hc fun zs hz hs => ⟨zs, (hz.trans hy.perm).length_eq, ⟨hz.trans hy.perm, hs⟩, rfl, rfl⟩
  exact this
end Go.Aev.M33
end
/- M33SrtN -/
section
namespace Go.Aev.M33
set_option maxRecDepth 1000000
set_option linter.unusedSimpArgs false
set_option linter.unusedVariables false
theorem srtN {xs : List Int} {P : List Int → Prop} {Q : V → Aev.Rows → Prop}  (hd : SortDoes 74 2 [I xs.length] TN (xs) (P)) (h : ∀ xs' : List Int, xs'.length = (xs).length → (P) xs' → Q (.tup []) (RW xs' :: TN)) : Ends c0 2 (start cS 43 [SL 0 xs, CC] (RW xs :: TN)) Q :=
  Ends.cfg rfl (Ends.to (c := cS) cS_ok (gds []) (atOp 5 3) 300 (s' := (nextOf (sTo cS (gds []) (atOp 5 3) 300 (start cS 43 [SL 0 xs, CC] (RW xs :: TN))))) (ps := []) (by kernel_rfl) (by
    (try simp only [AllP, Int.toNat_natCast, ints_len, decide_eq_true_eq, decide_eq_false_iff_not, beq_eq_false_iff_ne, beq_iff_eq, bne_iff_ne, bne_eq_false_iff_eq, Bool.not_eq_true', Bool.not_eq_false', Int.not_lt, Int.not_le, gt_iff_lt, ge_iff_le, ne_eq, and_true, true_and, unI_ints, Nat.zero_add, List.length_set, Nat.le_refl])
    all_goals (repeat' (first | with_reducible assumption | with_reducible rfl | omega | with_reducible exact ints_get (by omega) | with_reducible apply And.intro | unfold inInt | with_reducible exact isInts_ints _)))
    (Ends.callS (args := [I xs.length]) (T := TN) (xs := xs) (rs := [0, 1]) cS_ok rfl (by kernel_rfl) hd (fun xs' => by kernel_rfl) fun xs' hl' hp' =>
    Ends.fin (c := cS) cS_ok (gds []) 300 (ps := []) (v := .tup []) (rows := RW xs' :: TN) (by kernel_rfl) (by
    (try simp only [AllP, Int.toNat_natCast, ints_len, decide_eq_true_eq, decide_eq_false_iff_not, beq_eq_false_iff_ne, beq_iff_eq, bne_iff_ne, bne_eq_false_iff_eq, Bool.not_eq_true', Bool.not_eq_false', Int.not_lt, Int.not_le, gt_iff_lt, ge_iff_le, ne_eq, and_true, true_and, unI_ints, Nat.zero_add, List.length_set, Nat.le_refl])
    all_goals (repeat' (first | with_reducible assumption | with_reducible rfl | omega | with_reducible exact ints_get (by omega) | with_reducible apply And.intro | unfold inInt | with_reducible exact isInts_ints _))) (h xs' hl' hp')))
theorem srtN_does {xs : List Int} (hn : xs.length ≤ 1073741824) (hd : True) (hA : Asc xs 0 xs.length) : SortDoes 43 2 [] TN xs (fun ys => List.Perm ys xs ∧ Srt kyN ys 0 xs.length) :=
  does_of (c := cS) cS_ok (by kernel_rfl) (Ends.cfg rfl (c := c0) (srtN (stbN_does hn hd hA) fun ys hl hp => ⟨ys, hl, hp, rfl, rfl⟩))
end Go.Aev.M33
end
/- M33SortedDefs -/
section
namespace Go.Aev.M33
set_option maxRecDepth 1000000
set_option linter.unusedVariables false
/-- in sorted, the slice made: before operation i of the region that sorts -/
def at26 (i : Nat) (s : AS) : Bool := atOp 3 i s && (match (s.fr.env[5]? : Option V) with | some (V.sl _ _ _ _ _ _) => true | _ => false)
noncomputable def td26 : List AItem := (nextOf (sTo cS (gds [] [] 1) (at26 0) 300 (start cS 26 [L [0], .fn 28 []] []))).fr.todo
noncomputable def HSK (n : Nat) (xs cn : List Int) : AS := hd 26 td26 12 [(3, .pt 1 0 0 0), (5, .sl 2 1 0 n n false), (8, .sl 2 1 0 n n false)] [boxC (ints cn) true, boxF 0 false, RW xs]
noncomputable def HSN (n : Nat) (xs : List Int) : AS := hd 26 td26 12 [(3, .pt 0 0 0 0), (5, .sl 1 1 0 n n false), (8, .sl 1 1 0 n n false)] [boxN false, RW xs]
theorem ints_ne {xs : List Int} (h : xs ≠ []) : ints xs ≠ [] := by cases xs with
  | nil => exact absurd rfl h
  | cons a l => simp [ints]
end Go.Aev.M33
end
/- M33SortedSteps -/
section
namespace Go.Aev.M33
set_option maxRecDepth 1000000
set_option linter.unusedSimpArgs false
set_option linter.unusedVariables false
theorem srtdK_go {xs cn : List Int} {Q : V → Aev.Rows → Prop} (h0 : xs ≠ []) (h1 : xs.length ≠ 0) (hb : xs.length ≤ 1073741824) (h : Ends c0 0 (HSK (0 + (ints xs).length) xs cn) Q) : Ends c0 0 (start cS 26 [L xs, .fn 27 [.pt 0 0 0 0]] [boxC (ints cn) true]) Q :=
  Ends.cfg rfl (Ends.turn (c := cS) cS_ok (gds [] [] 1) (at26 0) 300 [0, 1, 3] [3, 5, 8] (ps := [ints xs ≠ [], (List.all (ints xs) fun e => List.length (D.cells e) == nat_lit 1) = true, nat_lit 0 < nat_lit 1 ∧   List.length (ints xs) ≠ nat_lit 0 ∧     nat_lit 1 = nat_lit 1 ∧       nat_lit 1 = nat_lit 1 ∧         nat_lit 0 ≤ nat_lit 0 ∧           ¬nat_lit 0 + List.length (ints xs) ≤ nat_lit 0 ∧             nat_lit 2 * (nat_lit 0 + List.length (ints xs)) * nat_lit 8 ≤ nat_lit 281474976710656 ∧               nat_lit 0 + List.length (ints xs) ≤ nat_lit 4611686018427387904]) (by kernel_rfl) (by
    (try simp only [AllP, Int.toNat_natCast, ints_len, decide_eq_true_eq, decide_eq_false_iff_not, beq_eq_false_iff_ne, beq_iff_eq, bne_iff_ne, bne_eq_false_iff_eq, Bool.not_eq_true', Bool.not_eq_false', Int.not_lt, Int.not_le, gt_iff_lt, ge_iff_le, ne_eq, and_true, true_and, List.drop_zero, ints_take, ints_drop, List.take_length, unI_ints, ints_all, Nat.zero_add, List.length_set, Nat.le_refl])
    all_goals (repeat' (first | with_reducible assumption | with_reducible rfl | omega | with_reducible exact ints_get (by omega) | with_reducible apply And.intro | unfold inInt | with_reducible exact isInts_ints _ | with_reducible exact ints_ne (by assumption)))) (Ends.cfg rfl h))
theorem srtdK_call {xs cn : List Int} {P : List Int → Prop} {Q : V → Aev.Rows → Prop} (hd : SortDoes 43 3 [] (TK cn) (xs) P) (h : ∀ xs' : List Int, xs'.length = xs.length → P xs' → Q (.sl 2 1 0 xs.length xs.length false) ([boxC (ints cn) true, boxF 0 false, RW xs'])) : Ends c0 0 (HSK xs.length xs cn) Q :=
  Ends.cfg rfl (Ends.to (c := cS) cS_ok (gds []) (atOp 3 1) 300 (s' := (nextOf (sTo cS (gds []) (atOp 3 1) 300 (HSK xs.length xs cn)))) (ps := []) (by kernel_rfl) (by
    (try simp only [AllP, Int.toNat_natCast, ints_len, decide_eq_true_eq, decide_eq_false_iff_not, beq_eq_false_iff_ne, beq_iff_eq, bne_iff_ne, bne_eq_false_iff_eq, Bool.not_eq_true', Bool.not_eq_false', Int.not_lt, Int.not_le, gt_iff_lt, ge_iff_le, ne_eq, and_true, true_and, List.drop_zero, ints_take, ints_drop, List.take_length, unI_ints, ints_all, Nat.zero_add, List.length_set, Nat.le_refl])
    all_goals (repeat' (first | with_reducible assumption | with_reducible rfl | omega | with_reducible exact ints_get (by omega) | with_reducible apply And.intro | unfold inInt | with_reducible exact isInts_ints _ | with_reducible exact ints_ne (by assumption))))
    (Ends.callS (args := []) (T := (TK cn)) (xs := xs) (rs := [2, 1, 0]) cS_ok rfl (by kernel_rfl) hd (fun xs' => by kernel_rfl) fun xs' hl' hp' =>
    Ends.fin (c := cS) cS_ok (gds []) 300 (ps := []) (v := .sl 2 1 0 xs.length xs.length false) (rows := [boxC (ints cn) true, boxF 0 false, RW xs']) (by kernel_rfl) (by
    (try simp only [AllP, Int.toNat_natCast, ints_len, decide_eq_true_eq, decide_eq_false_iff_not, beq_eq_false_iff_ne, beq_iff_eq, bne_iff_ne, bne_eq_false_iff_eq, Bool.not_eq_true', Bool.not_eq_false', Int.not_lt, Int.not_le, gt_iff_lt, ge_iff_le, ne_eq, and_true, true_and, List.drop_zero, ints_take, ints_drop, List.take_length, unI_ints, ints_all, Nat.zero_add, List.length_set, Nat.le_refl])
    all_goals (repeat' (first | with_reducible assumption | with_reducible rfl | omega | with_reducible exact ints_get (by omega) | with_reducible apply And.intro | unfold inInt | with_reducible exact isInts_ints _ | with_reducible exact ints_ne (by assumption)))) (h xs' hl' hp')))

theorem srtdN_go {xs : List Int} {Q : V → Aev.Rows → Prop} (h0 : xs ≠ []) (h1 : xs.length ≠ 0) (hb : xs.length ≤ 1073741824) (h : Ends c0 0 (HSN (0 + (ints xs).length) xs) Q) : Ends c0 0 (start cS 26 [L xs, .fn 28 []] []) Q :=
  Ends.cfg rfl (Ends.turn (c := cS) cS_ok (gds [] [] 1) (at26 0) 300 [0, 2] [3, 5, 8] (ps := [ints xs ≠ [], (List.all (ints xs) fun e => List.length (D.cells e) == nat_lit 1) = true, nat_lit 0 < nat_lit 1 ∧   List.length (ints xs) ≠ nat_lit 0 ∧     nat_lit 1 = nat_lit 1 ∧       nat_lit 1 = nat_lit 1 ∧         nat_lit 0 ≤ nat_lit 0 ∧           ¬nat_lit 0 + List.length (ints xs) ≤ nat_lit 0 ∧             nat_lit 2 * (nat_lit 0 + List.length (ints xs)) * nat_lit 8 ≤ nat_lit 281474976710656 ∧               nat_lit 0 + List.length (ints xs) ≤ nat_lit 4611686018427387904]) (by kernel_rfl) (by
    (try simp only [AllP, Int.toNat_natCast, ints_len, decide_eq_true_eq, decide_eq_false_iff_not, beq_eq_false_iff_ne, beq_iff_eq, bne_iff_ne, bne_eq_false_iff_eq, Bool.not_eq_true', Bool.not_eq_false', Int.not_lt, Int.not_le, gt_iff_lt, ge_iff_le, ne_eq, and_true, true_and, List.drop_zero, ints_take, ints_drop, List.take_length, unI_ints, ints_all, Nat.zero_add, List.length_set, Nat.le_refl])
    all_goals (repeat' (first | with_reducible assumption | with_reducible rfl | omega | with_reducible exact ints_get (by omega) | with_reducible apply And.intro | unfold inInt | with_reducible exact isInts_ints _ | with_reducible exact ints_ne (by assumption)))) (Ends.cfg rfl h))
theorem srtdN_call {xs : List Int} {P : List Int → Prop} {Q : V → Aev.Rows → Prop} (hd : SortDoes 43 2 [] TN (xs) P) (h : ∀ xs' : List Int, xs'.length = xs.length → P xs' → Q (.sl 1 1 0 xs.length xs.length false) ([boxN false, RW xs'])) : Ends c0 0 (HSN xs.length xs) Q :=
  Ends.cfg rfl (Ends.to (c := cS) cS_ok (gds []) (atOp 3 1) 300 (s' := (nextOf (sTo cS (gds []) (atOp 3 1) 300 (HSN xs.length xs)))) (ps := []) (by kernel_rfl) (by
    (try simp only [AllP, Int.toNat_natCast, ints_len, decide_eq_true_eq, decide_eq_false_iff_not, beq_eq_false_iff_ne, beq_iff_eq, bne_iff_ne, bne_eq_false_iff_eq, Bool.not_eq_true', Bool.not_eq_false', Int.not_lt, Int.not_le, gt_iff_lt, ge_iff_le, ne_eq, and_true, true_and, List.drop_zero, ints_take, ints_drop, List.take_length, unI_ints, ints_all, Nat.zero_add, List.length_set, Nat.le_refl])
    all_goals (repeat' (first | with_reducible assumption | with_reducible rfl | omega | with_reducible exact ints_get (by omega) | with_reducible apply And.intro | unfold inInt | with_reducible exact isInts_ints _ | with_reducible exact ints_ne (by assumption))))
    (Ends.callS (args := []) (T := TN) (xs := xs) (rs := [1, 0]) cS_ok rfl (by kernel_rfl) hd (fun xs' => by kernel_rfl) fun xs' hl' hp' =>
    Ends.fin (c := cS) cS_ok (gds []) 300 (ps := []) (v := .sl 1 1 0 xs.length xs.length false) (rows := [boxN false, RW xs']) (by kernel_rfl) (by
    (try simp only [AllP, Int.toNat_natCast, ints_len, decide_eq_true_eq, decide_eq_false_iff_not, beq_eq_false_iff_ne, beq_iff_eq, bne_iff_ne, bne_eq_false_iff_eq, Bool.not_eq_true', Bool.not_eq_false', Int.not_lt, Int.not_le, gt_iff_lt, ge_iff_le, ne_eq, and_true, true_and, List.drop_zero, ints_take, ints_drop, List.take_length, unI_ints, ints_all, Nat.zero_add, List.length_set, Nat.le_refl])
    all_goals (repeat' (first | with_reducible assumption | with_reducible rfl | omega | with_reducible exact ints_get (by omega) | with_reducible apply And.intro | unfold inInt | with_reducible exact isInts_ints _ | with_reducible exact ints_ne (by assumption)))) (h xs' hl' hp')))

end Go.Aev.M33
end
/- M33Sorted -/
section
namespace Go.Aev.M33
open List
set_option maxRecDepth 1000000
set_option linter.unusedVariables false
def lexle (k : Int → Int) (a b : Int) : Bool := decide (k a < k b ∨ (k a = k b ∧ a ≤ b))
/-- sorted by key, then by number -/
def srt (k : Int → Int) (xs : List Int) : List Int := xs.mergeSort (lexle k)
theorem srt_perm (k : Int → Int) (xs : List Int) : srt k xs ~ xs := List.mergeSort_perm xs _
theorem srt_pair (k : Int → Int) (xs : List Int) : (srt k xs).Pairwise (fun a b => lexle k a b = true) :=
  List.pairwise_mergeSort (le := lexle k) (fun a b c h1 h2 => by simp only [lexle, decide_eq_true_eq] at *; omega) (fun a b => by simp only [lexle, Bool.or_eq_true, decide_eq_true_eq]; omega) xs
theorem nth_get {xs : List Int} {i : Nat} (h : i < xs.length) : nth xs (i : Int) = xs[i] := by
  unfold nth; rw [List.getD_eq_getElem?_getD, Int.toNat_natCast, List.getElem?_eq_getElem h]; rfl
theorem srt_eq {k : Int → Int} {xs ys : List Int} (hp : ys ~ xs) (hs : Srt k ys 0 xs.length) : ys = srt k xs := by
  have hl := hp.length_eq
  have h1 : ys.Pairwise (fun a b => lexle k a b = true) := by
    rw [List.pairwise_iff_getElem]
    intro i j hi hj hij
    have := hs i j (by omega) (by omega) (by omega)
    rw [nth_get hi, nth_get hj] at this
    unfold lt at this
    simp only [lexle, decide_eq_true_eq]; omega
  refine List.Perm.eq_of_pairwise (le := fun a b => lexle k a b = true) (fun a b _ _ h1 h2 => ?_) h1 (srt_pair k xs) (hp.trans (srt_perm k xs).symm)
  simp only [lexle, decide_eq_true_eq] at h1 h2; omega
/-- sorted, by the counts -/
theorem sortedK_rcs {xs cn : List Int} (h0 : xs ≠ []) (hb : xs.length ≤ 1073741824) (hd : ∀ x ∈ xs, 0 ≤ x ∧ x < cn.length) (hA : Asc xs 0 xs.length) : RCs PP 26 [L xs, .fn 27 [.pt 0 0 0 0]] [boxC (ints cn) true] (L (srt (kyK cn) xs)) := by
  have hl : xs.length ≠ 0 := fun h => h0 (List.length_eq_zero_iff.1 h)
  refine rcs_of cS_ok (by kernel_rfl) (Ends.cfg rfl (c := c0) ?_)
  refine srtdK_go h0 hl hb ?_
  rw [Nat.zero_add, ints_len]
  refine srtdK_call (srtK_does hb hd hA) fun ys hly hy => ?_
  rw [← hly, srt_eq hy.1 hy.2]
  exact conv_sl rfl
theorem sortedN_rcs {xs : List Int} (h0 : xs ≠ []) (hb : xs.length ≤ 1073741824) (hA : Asc xs 0 xs.length) : RCs PP 26 [L xs, .fn 28 []] [] (L (srt kyN xs)) := by
  have hl : xs.length ≠ 0 := fun h => h0 (List.length_eq_zero_iff.1 h)
  refine rcs_of cS_ok (by kernel_rfl) (Ends.cfg rfl (c := c0) ?_)
  refine srtdN_go h0 hl hb ?_
  rw [Nat.zero_add, ints_len]
  refine srtdN_call (srtN_does hb trivial hA) fun ys hly hy => ?_
  rw [← hly, srt_eq hy.1 hy.2]
  exact conv_sl rfl
end Go.Aev.M33
end
/- M33SortedDefs2 -/
section
namespace Go.Aev.M33
set_option maxRecDepth 1000000
set_option linter.unusedVariables false
abbrev RO (xs : List Int) : Slot := .live (.dat 1 (ints xs) true)
noncomputable def HSD (n : Nat) (es : List D) (cn : List Int) : AS := hd 26 td26 12 [(3, .pt 1 0 0 0), (5, .sl 2 1 0 n n false), (8, .sl 2 1 0 n n false)] [boxC (ints cn) true, boxF 0 false, .live (.dat 1 es false)]
noncomputable def HSDN (n : Nat) (es : List D) : AS := hd 26 td26 12 [(3, .pt 0 0 0 0), (5, .sl 1 1 0 n n false), (8, .sl 1 1 0 n n false)] [boxN false, .live (.dat 1 es false)]
theorem take_all {xs : List Int} : List.take xs.length (List.drop 0 (ints xs)) = ints xs := by rw [List.drop_zero, ← ints_len xs, List.take_length]
end Go.Aev.M33
end
/- M33Sorted2 -/
section
namespace Go.Aev.M33
set_option maxRecDepth 1000000
set_option linter.unusedSimpArgs false
set_option linter.unusedVariables false
theorem srtdP_go {xs cn : List Int} {Q : V → Aev.Rows → Prop} (h0 : 0 < xs.length) (h1 : xs.length ≠ 0) (hb : xs.length ≤ 1073741824) (h : Ends c0 0 (HSD (0 + (List.take xs.length (List.drop 0 (ints xs))).length) (List.take xs.length (List.drop 0 (ints xs))) cn) Q) : Ends c0 0 (start cS 26 [SL 0 xs, .fn 27 [.pt 1 0 0 0]] [RO xs, boxC (ints cn) true]) Q :=
  Ends.cfg rfl (Ends.turn (c := cS) cS_ok (gds [] [] 1) (at26 0) 300 [1, 2, 4] [3, 5, 8] (ps := [nat_lit 0 < List.length xs, nat_lit 1 = nat_lit 1 ∧ nat_lit 1 = nat_lit 1 ∧ nat_lit 0 + List.length xs ≤ List.length (ints xs), nat_lit 0 < nat_lit 1 ∧   List.length (List.take (List.length xs) (List.drop (nat_lit 0) (ints xs))) ≠ nat_lit 0 ∧     nat_lit 1 = nat_lit 1 ∧       nat_lit 1 = nat_lit 1 ∧         nat_lit 0 ≤ nat_lit 0 ∧           ¬nat_lit 0 + List.length (List.take (List.length xs) (List.drop (nat_lit 0) (ints xs))) ≤ nat_lit 0 ∧             nat_lit 2 * (nat_lit 0 + List.length (List.take (List.length xs) (List.drop (nat_lit 0) (ints xs)))) *                   nat_lit 8 ≤                 nat_lit 281474976710656 ∧               nat_lit 0 + List.length (List.take (List.length xs) (List.drop (nat_lit 0) (ints xs))) ≤                 nat_lit 4611686018427387904]) (by kernel_rfl) (by
    (try simp only [AllP, Int.toNat_natCast, ints_len, decide_eq_true_eq, decide_eq_false_iff_not, beq_eq_false_iff_ne, beq_iff_eq, bne_iff_ne, bne_eq_false_iff_eq, Bool.not_eq_true', Bool.not_eq_false', Int.not_lt, Int.not_le, gt_iff_lt, ge_iff_le, ne_eq, and_true, true_and, take_all, List.drop_zero, List.take_length, List.length_take, Nat.min_self, unI_ints, ints_all, Nat.zero_add, List.length_set, Nat.le_refl])
    all_goals (repeat' (first | with_reducible assumption | with_reducible rfl | omega | with_reducible exact ints_get (by omega) | with_reducible apply And.intro | unfold inInt | with_reducible exact isInts_ints _ | with_reducible exact ints_ne (by assumption)))) (Ends.cfg rfl h))
theorem srtdQ_go {xs : List Int} {Q : V → Aev.Rows → Prop} (h0 : 0 < xs.length) (h1 : xs.length ≠ 0) (hb : xs.length ≤ 1073741824) (h : Ends c0 0 (HSDN (0 + (List.take xs.length (List.drop 0 (ints xs))).length) (List.take xs.length (List.drop 0 (ints xs)))) Q) : Ends c0 0 (start cS 26 [SL 0 xs, .fn 28 []] [RO xs]) Q :=
  Ends.cfg rfl (Ends.turn (c := cS) cS_ok (gds [] [] 1) (at26 0) 300 [1, 3] [3, 5, 8] (ps := [nat_lit 0 < List.length xs, nat_lit 1 = nat_lit 1 ∧ nat_lit 1 = nat_lit 1 ∧ nat_lit 0 + List.length xs ≤ List.length (ints xs), nat_lit 0 < nat_lit 1 ∧   List.length (List.take (List.length xs) (List.drop (nat_lit 0) (ints xs))) ≠ nat_lit 0 ∧     nat_lit 1 = nat_lit 1 ∧       nat_lit 1 = nat_lit 1 ∧         nat_lit 0 ≤ nat_lit 0 ∧           ¬nat_lit 0 + List.length (List.take (List.length xs) (List.drop (nat_lit 0) (ints xs))) ≤ nat_lit 0 ∧             nat_lit 2 * (nat_lit 0 + List.length (List.take (List.length xs) (List.drop (nat_lit 0) (ints xs)))) *                   nat_lit 8 ≤                 nat_lit 281474976710656 ∧               nat_lit 0 + List.length (List.take (List.length xs) (List.drop (nat_lit 0) (ints xs))) ≤                 nat_lit 4611686018427387904]) (by kernel_rfl) (by
    (try simp only [AllP, Int.toNat_natCast, ints_len, decide_eq_true_eq, decide_eq_false_iff_not, beq_eq_false_iff_ne, beq_iff_eq, bne_iff_ne, bne_eq_false_iff_eq, Bool.not_eq_true', Bool.not_eq_false', Int.not_lt, Int.not_le, gt_iff_lt, ge_iff_le, ne_eq, and_true, true_and, take_all, List.drop_zero, List.take_length, List.length_take, Nat.min_self, unI_ints, ints_all, Nat.zero_add, List.length_set, Nat.le_refl])
    all_goals (repeat' (first | with_reducible assumption | with_reducible rfl | omega | with_reducible exact ints_get (by omega) | with_reducible apply And.intro | unfold inInt | with_reducible exact isInts_ints _ | with_reducible exact ints_ne (by assumption)))) (Ends.cfg rfl h))
/-- sorted of a slice, by the counts -/
theorem sortedP_rcs {xs cn : List Int} (h0 : 0 < xs.length) (hb : xs.length ≤ 1073741824) (hd : ∀ x ∈ xs, 0 ≤ x ∧ x < cn.length) (hA : Asc xs 0 xs.length) : RCs PP 26 [SL 0 xs, .fn 27 [.pt 1 0 0 0]] [RO xs, boxC (ints cn) true] (L (srt (kyK cn) xs)) := by
  refine rcs_of cS_ok (by kernel_rfl) (Ends.cfg rfl (c := c0) ?_)
  refine srtdP_go h0 (by omega) hb ?_
  rw [Nat.zero_add, take_all, ints_len]
  refine srtdK_call (srtK_does hb hd hA) fun ys hly hy => ?_
  rw [← hly, srt_eq hy.1 hy.2]
  exact conv_sl rfl
theorem sortedQ_rcs {xs : List Int} (h0 : 0 < xs.length) (hb : xs.length ≤ 1073741824) (hA : Asc xs 0 xs.length) : RCs PP 26 [SL 0 xs, .fn 28 []] [RO xs] (L (srt kyN xs)) := by
  refine rcs_of cS_ok (by kernel_rfl) (Ends.cfg rfl (c := c0) ?_)
  refine srtdQ_go h0 (by omega) hb ?_
  rw [Nat.zero_add, take_all, ints_len]
  refine srtdN_call (srtN_does hb trivial hA) fun ys hly hy => ?_
  rw [← hly, srt_eq hy.1 hy.2]
  exact conv_sl rfl
end Go.Aev.M33
end
/- M33Sort4 -/
section
namespace Go.Aev.M33
open List
set_option maxRecDepth 1000000
set_option linter.unusedVariables false
/- A short list (less than 20) of different numbers, in any order, sorted by the number itself. -/
theorem nth_inj {xs : List Int} (hn : xs.Nodup) {p q : Int} (h0 : 0 ≤ p) (h1 : p < xs.length) (h2 : 0 ≤ q) (h3 : q < xs.length) (h : nth xs p = nth xs q) : p = q := by
  have e1 : nth xs p = xs[p.toNat]'(by omega) := by
    unfold nth; rw [List.getD_eq_getElem?_getD, List.getElem?_eq_getElem (by omega)]; rfl
  have e2 : nth xs q = xs[q.toNat]'(by omega) := by
    unfold nth; rw [List.getD_eq_getElem?_getD, List.getElem?_eq_getElem (by omega)]; rfl
  rw [e1, e2] at h
  have hp := List.pairwise_iff_getElem.1 hn
  rcases Int.lt_trichotomy p q with k | k | k
  · exact absurd h (hp p.toNat q.toNat (by omega) (by omega) (by omega))
  · exact k
  · exact absurd h.symm (hp q.toNat p.toNat (by omega) (by omega) (by omega))
/-- the inner loop of insertion -/
structure In4 (xs : List Int) (lo i j : Int) : Prop where
  srt : ∀ p q, lo ≤ p → p < q → q ≤ i → p ≠ j → q ≠ j → nth xs p < nth xs q
  up : ∀ q, j < q → q ≤ i → nth xs j < nth xs q
theorem lt_N {x y : Int} : lt kyN x y ↔ x < y := by unfold lt kyN; omega
theorem In4.start {xs : List Int} {lo i : Int} (h : Srt kyN xs lo i) : In4 xs lo i i :=
  ⟨fun p q h1 h2 h3 h4 h5 => lt_N.1 (h p q h1 h2 (by omega)), fun q h1 h2 => by omega⟩
theorem In4.stay {xs : List Int} {lo i j : Int} (hn : xs.Nodup) (h0 : 0 ≤ lo) (hi : i < xs.length) (h : In4 xs lo i j) (hj : lo < j) (hji : j ≤ i) (hc : nth xs (j - 1) ≤ nth xs j) : Srt kyN xs lo (i + 1) := by
  have hl : nth xs (j - 1) < nth xs j := by
    rcases Int.lt_or_le (nth xs (j - 1)) (nth xs j) with k | k
    · exact k
    · have := nth_inj hn (p := j - 1) (q := j) (by omega) (by omega) (by omega) (by omega) (by omega)
      omega
  intro p q h1 h2 h3
  rw [lt_N]
  by_cases hp : p = j
  · subst hp; exact h.up q (by omega) (by omega)
  · by_cases hq : q = j
    · subst hq
      by_cases hp1 : p = q - 1
      · subst hp1; exact hl
      · have := h.srt p (q - 1) h1 (by omega) (by omega) (by omega) (by omega)
        omega
    · exact h.srt p q h1 h2 (by omega) hp hq
theorem In4.bot {xs : List Int} {lo i : Int} (h : In4 xs lo i lo) : Srt kyN xs lo (i + 1) := by
  intro p q h1 h2 h3
  rw [lt_N]
  by_cases hp : p = lo
  · subst hp; exact h.up q (by omega) (by omega)
  · exact h.srt p q h1 h2 (by omega) hp (by omega)
theorem In4.swap {xs : List Int} {lo i j : Int} (h : In4 xs lo i j) (h0 : 0 ≤ lo) (hj : lo < j) (hji : j ≤ i) (hn : i < xs.length) (hc : nth xs j < nth xs (j - 1)) : In4 (sw xs j (j - 1)) lo i (j - 1) := by
  have e : ∀ p, 0 ≤ p → nth (sw xs j (j - 1)) p = if p = j then nth xs (j - 1) else if p = j - 1 then nth xs j else nth xs p :=
    fun p hp => sw_nth (by omega) (by omega) (by omega) (by omega) hp
  refine ⟨fun p q h1 h2 h3 h4 h5 => ?_, fun q h1 h2 => ?_⟩
  · rw [e p (by omega), e q (by omega), if_neg h4, if_neg h5]
    by_cases hp : p = j
    · subst hp
      rw [if_pos rfl, if_neg (by omega)]
      exact h.srt (p - 1) q (by omega) (by omega) h3 (by omega) (by omega)
    · rw [if_neg hp]
      by_cases hq : q = j
      · subst hq
        rw [if_pos rfl]
        exact h.srt p (q - 1) h1 (by omega) (by omega) hp (by omega)
      · rw [if_neg hq]; exact h.srt p q h1 h2 h3 hp hq
  · rw [e (j - 1) (by omega), e q (by omega), if_neg (by omega), if_pos rfl]
    by_cases hq : q = j
    · rw [if_pos hq]; exact hc
    · rw [if_neg hq, if_neg (by omega)]; exact h.up q (by omega) h2
theorem ins4_inner {lo hi : Int} (h0 : 0 ≤ lo) {Q : V → Aev.Rows → Prop} : ∀ (n : Nat) (xs : List Int) (i j : Int), xs.Nodup → hi ≤ xs.length → xs.length ≤ 1073741824 → (j - lo).toNat = n → lo ≤ j → j ≤ i → lo < i → i < hi → In4 xs lo i j →
    (∀ ys, Mv xs ys lo hi → Srt kyN ys lo (i + 1) → Ends c0 2 (H113o ys TN lo hi (i + 1)) Q) → Ends c0 2 (H113i xs.length (ints xs) TN lo hi i j) Q := by
  intro n
  induction n with
  | zero =>
    intro xs i j hN hl hn hm h1 h2 h3 h4 hI h
    obtain rfl : j = lo := by omega
    exact insN_bot (Int.le_refl _) (by unfold inInt; omega) (h xs (.refl _ _ _) hI.bot)
  | succ n ih =>
    intro xs i j hN hl hn hm h1 h2 h3 h4 hI h
    by_cases hc : nth xs j < nth xs (j - 1)
    · refine insN_swap (by omega) h0 (by omega) hn (cmpI_lt.2 hc) ?_
      rw [ints_sw]
      have hp := sw_perm (xs := xs) (i := j) (j := j - 1) (by omega) (by omega) (by omega) (by omega)
      have := ih (sw xs j (j - 1)) i (j - 1) (hp.nodup_iff.2 hN) (by rw [sw_len]; exact hl) (by rw [sw_len]; exact hn) (by omega) (by omega) (by omega) h3 h4 (hI.swap h0 (by omega) h2 (by omega) hc)
        (fun ys hy ho => h ys ((Mv.sw h0 (by omega) (by omega) (by omega) (by omega) hl).trans hy) ho)
      rw [sw_len] at this
      exact this
    · exact insN_stay (by omega) h0 (by omega) hn (cmpI_ge.2 (Int.not_lt.1 hc)) (by unfold inInt; omega) (h xs (.refl _ _ _) (hI.stay hN h0 (by omega) (by omega) h2 (Int.not_lt.1 hc)))
theorem ins4_outer {lo hi : Int} (h0 : 0 ≤ lo) {Q : V → Aev.Rows → Prop} : ∀ (n : Nat) (xs : List Int) (i : Int), xs.Nodup → hi ≤ xs.length → xs.length ≤ 1073741824 → (hi - i).toNat = n → lo < i → Srt kyN xs lo i →
    (∀ ys, Mv xs ys lo hi → Srt kyN ys lo hi → Q (.tup []) (RW ys :: TN)) → Ends c0 2 (H113o xs TN lo hi i) Q := by
  intro n
  induction n with
  | zero =>
    intro xs i hN hl hn hm h1 hO h
    exact insN_end (by omega) (h xs (.refl _ _ _) (fun p q k1 k2 k3 => hO p q k1 k2 (by omega)))
  | succ n ih =>
    intro xs i hN hl hn hm h1 hO h
    refine insN_in (by omega) (ins4_inner h0 _ xs i i hN hl hn rfl (by omega) (Int.le_refl _) h1 (by omega) (.start hO) fun ys hy ho => ?_)
    exact ih ys (i + 1) (hy.perm.nodup_iff.2 hN) (by rw [hy.len]; exact hl) (by rw [hy.len]; exact hn) (by omega) (by omega) ho (fun zs hz hs => h zs (hy.trans hz) hs)
theorem ins4_does {xs : List Int} {lo hi : Int} (hN : xs.Nodup) (h0 : 0 ≤ lo) (h1 : lo ≤ hi) (h2 : hi ≤ xs.length) (h3 : xs.length ≤ 1073741824) : SortDoes 113 2 [I lo, I hi] TN xs (fun ys => Mv xs ys lo hi ∧ Srt kyN ys lo hi) :=
  does_of (c := cS) cS_ok (by kernel_rfl) (Ends.cfg rfl (insN_go (by unfold inInt; omega) (ins4_outer h0 _ xs (lo + 1) hN h2 h3 rfl (by omega) (fun p q k1 k2 k3 => by omega) fun ys hy hs => ⟨ys, hy.len, ⟨hy, hs⟩, rfl, rfl⟩)))
theorem stb4_does {xs : List Int} (hN : xs.Nodup) (hn : xs.length < 20) : SortDoes 74 2 [I xs.length] TN xs (fun ys => ys ~ xs ∧ Srt kyN ys 0 xs.length) := by
  refine does_of (c := cS) cS_ok (by kernel_rfl) (Ends.cfg rfl (c := c0) ?_)
  show Ends c0 2 (s74 xs TN xs.length) _
  refine stbN_go ?_
  have := stbN_last (xs := xs) (n := (xs.length : Int)) (bs := 20) (a := 0) (b := 0 + 20) (Q := fun v rows => ∃ xs', xs'.length = xs.length ∧ (xs' ~ xs ∧ Srt kyN xs' 0 xs.length) ∧ v = .tup [] ∧ rows = RW xs' :: TN) (by omega) (ins4_does hN (Int.le_refl _) (by omega) (by omega) (by omega)) fun ys hly hy => by
    rw [← hly]
    exact stbN_end (by omega) ⟨ys, rfl, ⟨hy.1.perm, by rw [hly]; exact hy.2⟩, rfl, rfl⟩
  exact this
theorem srt4_does {xs : List Int} (hN : xs.Nodup) (hn : xs.length < 20) : SortDoes 43 2 [] TN xs (fun ys => List.Perm ys xs ∧ Srt kyN ys 0 xs.length) :=
  does_of (c := cS) cS_ok (by kernel_rfl) (Ends.cfg rfl (c := c0) (srtN (stb4_does hN hn) fun ys hl hp => ⟨ys, hl, hp, rfl, rfl⟩))
/-- sorted by the number, of a short list of different numbers -/
theorem sorted4_rcs {xs : List Int} (h0 : xs ≠ []) (hN : xs.Nodup) (hn : xs.length < 20) : RCs PP 26 [L xs, .fn 28 []] [] (L (srt kyN xs)) := by
  have hl : xs.length ≠ 0 := fun h => h0 (List.length_eq_zero_iff.1 h)
  refine rcs_of cS_ok (by kernel_rfl) (Ends.cfg rfl (c := c0) ?_)
  refine srtdN_go h0 hl (by omega) ?_
  rw [Nat.zero_add, ints_len]
  refine srtdN_call (srt4_does hN hn) fun ys hly hy => ?_
  rw [← hly, srt_eq hy.1 hy.2]
  exact conv_sl rfl
end Go.Aev.M33
end
/- M33MPickDefs -/
section
namespace Go.Aev.M33
set_option maxRecDepth 1000000
set_option linter.unusedVariables false
/-- no number twice -/
def Once (xs : List Int) : Prop := xs.Nodup
/-- the calls of merge.Pick; j is the class of the count looked at -/
def tabP (j : Int) (g : FuncId) (args : List V) (rows : Aev.Rows) : Option (List Prop × V) :=
  match g, args, rows with
  | 8, [.d (.int .i64 n)], _ => some ([n ≤ 4096, cls n = j], I j)
  | 26, [.sl 0 1 0 n m false, .fn 27 [.pt 1 0 0 0]], [.live (.dat 1 es true), .live (.box [.d (.list cs)] true)] =>
    some ([isInts es, isInts cs, n = es.length ∧ m = es.length ∧ 0 < es.length ∧ es.length ≤ 1073741824, ∀ x ∈ es.map unI, 0 ≤ x ∧ x < (cs.map unI).length, Asc (es.map unI) 0 (es.map unI).length], L (srt (kyK (cs.map unI)) (es.map unI)))
  | 26, [.d (.list es), .fn 28 []], [] =>
    some ([isInts es, 0 < es.length ∧ es.length < 20, Once (es.map unI)], L (srt kyN (es.map unI)))
  | _, _, _ => none
noncomputable def cP (j : Int) : SCfg := mk (fun g => Nat.beq g 8 || Nat.beq g 26) (tabP j)
noncomputable def td13 : List AItem := (nextOf (sTo (cP 0) (gds [] [] 1) (atLoop 3) 300 (start (cP 0) 13 [L [0]] []))).fr.todo
theorem cP_ok (j : Int) : COK (cP j).cfg := mk_ok (fun g args rows ps v h hp => by
  have h : tabP j g args rows = some (ps, v) := h
  unfold tabP at h
  split at h
  · cases h
    obtain ⟨h1, h2, _⟩ := hp
    rw [← h2]
    exact (class_rcs h1).of_lists (.cons (.data _) .nil)
  · rename_i n m es cs _hq
    cases h
    obtain ⟨h1, h2, ⟨h3, h4, h5, h6⟩, h7, h8, _⟩ := hp
    have := sortedP_rcs (xs := es.map unI) (cn := cs.map unI) (by rw [map_len]; exact h5) (by rw [map_len]; exact h6) h7 h8
    unfold isInts at h1 h2
    rw [SL, RO, map_len, ← h1, ← h2] at this
    rw [h3, h4]
    exact this
  · rename_i es _hq
    cases h
    obtain ⟨h1, ⟨h2, h3⟩, h4, _⟩ := hp
    have := sorted4_rcs (xs := es.map unI) (by intro e; rw [List.map_eq_nil_iff] at e; subst e; simp at h2) h4 (by rw [map_len]; exact h3)
    unfold isInts at h1
    have e : L (es.map unI) = .d (.list es) := by rw [L, ← h1]
    rw [e] at this
    exact this
  · cases h)
/-- the list of a class -/
def cell (r : Nat) : List Int → V
  | [] => .nil
  | x :: l => .sl r 1 0 (x :: l).length (x :: l).length false
def cellRow : List Int → Slot
  | [] => .dead
  | x :: l => RW (x :: l)
/-- at the loop over the counts -/
noncomputable def HM (a : List Int) (k : Int) (l0 l1 l2 l3 l4 : List Int) : AS :=
  hd 13 td13 59 [(1, .pt 0 0 0 0), (2, .nil), (3, .pt 1 0 0 0), (12, L a), (13, I ((ints a).length : Int)), (14, I k)]
    [.live (.box [L a] false), .live (.box [cell 2 l0, cell 3 l1, cell 4 l2, cell 5 l3, cell 6 l4] false), cellRow l0, cellRow l1, cellRow l2, cellRow l3, cellRow l4]
theorem cell_snoc (r : Nat) (x k : Int) (l : List Int) : cell r ((x :: l) ++ [k]) = .sl r 1 0 ((x :: l).length + 1) ((x :: l).length + 1) false := by simp [cell]
theorem cellRow_snoc (x k : Int) (l : List Int) : cellRow ((x :: l) ++ [k]) = .live (.dat 1 (ints (x :: l) ++ [.int .i64 k]) false) := by simp [cellRow, ints]
theorem take_own (x : Int) (l : List Int) (es : List D) : List.take (x :: l).length (List.drop 0 (ints (x :: l))) ++ es = ints (x :: l) ++ es := by rw [take_all]
noncomputable def HMg (a : List Int) (k : Int) (cs : List V) (rs : List Slot) : AS :=
  hd 13 td13 59 [(1, .pt 0 0 0 0), (2, .nil), (3, .pt 1 0 0 0), (12, L a), (13, I ((ints a).length : Int)), (14, I k)] (.live (.box [L a] false) :: .live (.box cs false) :: rs)
end Go.Aev.M33
end
/- M33MPick1 -/
section
namespace Go.Aev.M33
set_option maxRecDepth 1000000
set_option linter.unusedSimpArgs false
set_option linter.unusedVariables false
theorem mp0_nil {a : List Int} {k : Int} {l1 : List Int} {l2 : List Int} {l3 : List Int} {l4 : List Int} {Q : V → Aev.Rows → Prop} (h0 : 0 ≤ k) (h1 : k < a.length) (hb : a.length ≤ 1073741824) (hx : a.getD k.toNat 0 ≤ 4096) (hc : cls (a.getD k.toNat 0) = 0) (h : Ends c0 0 (HMg a (k + 1) [.sl 2 1 0 1 1 false, cell 3 l1, cell 4 l2, cell 5 l3, cell 6 l4] [.live (.dat 1 [.int .i64 k] false), cellRow l1, cellRow l2, cellRow l3, cellRow l4]) Q) : Ends c0 0 (HMg a (k) [.nil, cell 3 l1, cell 4 l2, cell 5 l3, cell 6 l4] [.dead, cellRow l1, cellRow l2, cellRow l3, cellRow l4]) Q := by
  cases l1 <;> cases l2 <;> cases l3 <;> cases l4 <;> exact Ends.cfg rfl (Ends.turn (c := cP 0) (cP_ok 0) (gds [(15,true)] [(12, el a)] 1) (atLoop 3) 300 [0, 1, 8, 3, 4, 5, 6] [1, 2, 3, 12, 13, 14] (ps := [decide (k < (↑(List.length (ints a)) : Int)) = true, (0 : Int) ≤ k ∧ k < (↑(List.length (ints a)) : Int), (ints a)[Int.toNat k]? = some (D.int IntKind.i64 (List.getD a (Int.toNat k) (0 : Int))), nat_lit 1 = nat_lit 1, List.getD a (Int.toNat k) (0 : Int) ≤ (4096 : Int), cls (List.getD a (Int.toNat k) (0 : Int)) = (0 : Int), List.getD a (Int.toNat k) (0 : Int) ≤ (4096 : Int), cls (List.getD a (Int.toNat k) (0 : Int)) = (0 : Int), nat_lit 1 = nat_lit 1 ∧ nat_lit 1 = nat_lit 1 ∧ nat_lit 1 ≤ nat_lit 1, nat_lit 0 < nat_lit 1 ∧   nat_lit 1 ≠ nat_lit 0 ∧ nat_lit 16 ≤ nat_lit 281474976710656 ∧ nat_lit 1 ≤ nat_lit 4611686018427387904, inInt (k + (1 : Int))]) (by kernel_rfl) (by
    (try simp only [AllP, Int.toNat_natCast, ints_len, decide_eq_true_eq, decide_eq_false_iff_not, beq_eq_false_iff_ne, beq_iff_eq, bne_iff_ne, bne_eq_false_iff_eq, Bool.not_eq_true', Bool.not_eq_false', Int.not_lt, Int.not_le, gt_iff_lt, ge_iff_le, ne_eq, and_true, true_and, unI_ints, Nat.zero_add, List.length_set, Nat.le_refl, List.length_cons])
    all_goals (repeat' (first | with_reducible assumption | with_reducible rfl | omega | with_reducible exact ints_get (by omega) | with_reducible apply And.intro | unfold inInt | with_reducible exact isInts_ints _))) (Ends.cfg rfl h))
theorem mp0_cons {a : List Int} {k : Int} {l1 : List Int} {l2 : List Int} {l3 : List Int} {l4 : List Int} {x : Int} {l : List Int} {Q : V → Aev.Rows → Prop} (h0 : 0 ≤ k) (h1 : k < a.length) (hb : a.length ≤ 1073741824) (hx : a.getD k.toNat 0 ≤ 4096) (hc : cls (a.getD k.toNat 0) = 0) (hl : l.length + 1 ≤ 1073741824) (h : Ends c0 0 (HMg a (k + 1) [.sl 2 1 0 ((x :: l).length + 1) ((x :: l).length + 1) false, cell 3 l1, cell 4 l2, cell 5 l3, cell 6 l4] [.live (.dat 1 (List.take (x :: l).length (List.drop 0 (ints (x :: l))) ++ [.int .i64 k]) false), cellRow l1, cellRow l2, cellRow l3, cellRow l4]) Q) : Ends c0 0 (HMg a (k) [cell 2 (x :: l), cell 3 l1, cell 4 l2, cell 5 l3, cell 6 l4] [cellRow (x :: l), cellRow l1, cellRow l2, cellRow l3, cellRow l4]) Q := by
  cases l1 <;> cases l2 <;> cases l3 <;> cases l4 <;> exact Ends.cfg rfl (Ends.turn (c := cP 0) (cP_ok 0) (gds [(15,true)] [(12, el a)] 1) (atLoop 3) 300 [0, 1, 8, 3, 4, 5, 6] [1, 2, 3, 12, 13, 14] (ps := [decide (k < (↑(List.length (ints a)) : Int)) = true, (0 : Int) ≤ k ∧ k < (↑(List.length (ints a)) : Int), (ints a)[Int.toNat k]? = some (D.int IntKind.i64 (List.getD a (Int.toNat k) (0 : Int))), nat_lit 1 = nat_lit 1, List.getD a (Int.toNat k) (0 : Int) ≤ (4096 : Int), cls (List.getD a (Int.toNat k) (0 : Int)) = (0 : Int), List.getD a (Int.toNat k) (0 : Int) ≤ (4096 : Int), cls (List.getD a (Int.toNat k) (0 : Int)) = (0 : Int), nat_lit 1 = nat_lit 1 ∧ nat_lit 1 = nat_lit 1 ∧ nat_lit 1 ≤ nat_lit 1, nat_lit 0 < nat_lit 1 ∧   nat_lit 1 ≠ nat_lit 0 ∧     nat_lit 1 = nat_lit 1 ∧       nat_lit 1 = nat_lit 1 ∧         nat_lit 0 + List.length (x :: l) ≤ List.length (ints (x :: l)) ∧           ¬List.length (x :: l) + nat_lit 1 ≤ List.length (x :: l) ∧             nat_lit 2 * (List.length (x :: l) + nat_lit 1) * nat_lit 8 ≤ nat_lit 281474976710656 ∧               List.length (x :: l) + nat_lit 1 ≤ nat_lit 4611686018427387904, inInt (k + (1 : Int))]) (by kernel_rfl) (by
    (try simp only [AllP, Int.toNat_natCast, ints_len, decide_eq_true_eq, decide_eq_false_iff_not, beq_eq_false_iff_ne, beq_iff_eq, bne_iff_ne, bne_eq_false_iff_eq, Bool.not_eq_true', Bool.not_eq_false', Int.not_lt, Int.not_le, gt_iff_lt, ge_iff_le, ne_eq, and_true, true_and, unI_ints, Nat.zero_add, List.length_set, Nat.le_refl, List.length_cons])
    all_goals (repeat' (first | with_reducible assumption | with_reducible rfl | omega | with_reducible exact ints_get (by omega) | with_reducible apply And.intro | unfold inInt | with_reducible exact isInts_ints _))) (Ends.cfg rfl h))
theorem mp1_nil {a : List Int} {k : Int} {l0 : List Int} {l2 : List Int} {l3 : List Int} {l4 : List Int} {Q : V → Aev.Rows → Prop} (h0 : 0 ≤ k) (h1 : k < a.length) (hb : a.length ≤ 1073741824) (hx : a.getD k.toNat 0 ≤ 4096) (hc : cls (a.getD k.toNat 0) = 1) (h : Ends c0 0 (HMg a (k + 1) [cell 2 l0, .sl 3 1 0 1 1 false, cell 4 l2, cell 5 l3, cell 6 l4] [cellRow l0, .live (.dat 1 [.int .i64 k] false), cellRow l2, cellRow l3, cellRow l4]) Q) : Ends c0 0 (HMg a (k) [cell 2 l0, .nil, cell 4 l2, cell 5 l3, cell 6 l4] [cellRow l0, .dead, cellRow l2, cellRow l3, cellRow l4]) Q := by
  cases l0 <;> cases l2 <;> cases l3 <;> cases l4 <;> exact Ends.cfg rfl (Ends.turn (c := cP 1) (cP_ok 1) (gds [(15,true)] [(12, el a)] 1) (atLoop 3) 300 [0, 1, 2, 8, 4, 5, 6] [1, 2, 3, 12, 13, 14] (ps := [decide (k < (↑(List.length (ints a)) : Int)) = true, (0 : Int) ≤ k ∧ k < (↑(List.length (ints a)) : Int), (ints a)[Int.toNat k]? = some (D.int IntKind.i64 (List.getD a (Int.toNat k) (0 : Int))), nat_lit 1 = nat_lit 1, List.getD a (Int.toNat k) (0 : Int) ≤ (4096 : Int), cls (List.getD a (Int.toNat k) (0 : Int)) = (1 : Int), List.getD a (Int.toNat k) (0 : Int) ≤ (4096 : Int), cls (List.getD a (Int.toNat k) (0 : Int)) = (1 : Int), nat_lit 1 = nat_lit 1 ∧ nat_lit 1 = nat_lit 1 ∧ nat_lit 1 ≤ nat_lit 1, nat_lit 0 < nat_lit 1 ∧   nat_lit 1 ≠ nat_lit 0 ∧ nat_lit 16 ≤ nat_lit 281474976710656 ∧ nat_lit 1 ≤ nat_lit 4611686018427387904, inInt (k + (1 : Int))]) (by kernel_rfl) (by
    (try simp only [AllP, Int.toNat_natCast, ints_len, decide_eq_true_eq, decide_eq_false_iff_not, beq_eq_false_iff_ne, beq_iff_eq, bne_iff_ne, bne_eq_false_iff_eq, Bool.not_eq_true', Bool.not_eq_false', Int.not_lt, Int.not_le, gt_iff_lt, ge_iff_le, ne_eq, and_true, true_and, unI_ints, Nat.zero_add, List.length_set, Nat.le_refl, List.length_cons])
    all_goals (repeat' (first | with_reducible assumption | with_reducible rfl | omega | with_reducible exact ints_get (by omega) | with_reducible apply And.intro | unfold inInt | with_reducible exact isInts_ints _))) (Ends.cfg rfl h))
theorem mp1_cons {a : List Int} {k : Int} {l0 : List Int} {l2 : List Int} {l3 : List Int} {l4 : List Int} {x : Int} {l : List Int} {Q : V → Aev.Rows → Prop} (h0 : 0 ≤ k) (h1 : k < a.length) (hb : a.length ≤ 1073741824) (hx : a.getD k.toNat 0 ≤ 4096) (hc : cls (a.getD k.toNat 0) = 1) (hl : l.length + 1 ≤ 1073741824) (h : Ends c0 0 (HMg a (k + 1) [cell 2 l0, .sl 3 1 0 ((x :: l).length + 1) ((x :: l).length + 1) false, cell 4 l2, cell 5 l3, cell 6 l4] [cellRow l0, .live (.dat 1 (List.take (x :: l).length (List.drop 0 (ints (x :: l))) ++ [.int .i64 k]) false), cellRow l2, cellRow l3, cellRow l4]) Q) : Ends c0 0 (HMg a (k) [cell 2 l0, cell 3 (x :: l), cell 4 l2, cell 5 l3, cell 6 l4] [cellRow l0, cellRow (x :: l), cellRow l2, cellRow l3, cellRow l4]) Q := by
  cases l0 <;> cases l2 <;> cases l3 <;> cases l4 <;> exact Ends.cfg rfl (Ends.turn (c := cP 1) (cP_ok 1) (gds [(15,true)] [(12, el a)] 1) (atLoop 3) 300 [0, 1, 2, 8, 4, 5, 6] [1, 2, 3, 12, 13, 14] (ps := [decide (k < (↑(List.length (ints a)) : Int)) = true, (0 : Int) ≤ k ∧ k < (↑(List.length (ints a)) : Int), (ints a)[Int.toNat k]? = some (D.int IntKind.i64 (List.getD a (Int.toNat k) (0 : Int))), nat_lit 1 = nat_lit 1, List.getD a (Int.toNat k) (0 : Int) ≤ (4096 : Int), cls (List.getD a (Int.toNat k) (0 : Int)) = (1 : Int), List.getD a (Int.toNat k) (0 : Int) ≤ (4096 : Int), cls (List.getD a (Int.toNat k) (0 : Int)) = (1 : Int), nat_lit 1 = nat_lit 1 ∧ nat_lit 1 = nat_lit 1 ∧ nat_lit 1 ≤ nat_lit 1, nat_lit 0 < nat_lit 1 ∧   nat_lit 1 ≠ nat_lit 0 ∧     nat_lit 1 = nat_lit 1 ∧       nat_lit 1 = nat_lit 1 ∧         nat_lit 0 + List.length (x :: l) ≤ List.length (ints (x :: l)) ∧           ¬List.length (x :: l) + nat_lit 1 ≤ List.length (x :: l) ∧             nat_lit 2 * (List.length (x :: l) + nat_lit 1) * nat_lit 8 ≤ nat_lit 281474976710656 ∧               List.length (x :: l) + nat_lit 1 ≤ nat_lit 4611686018427387904, inInt (k + (1 : Int))]) (by kernel_rfl) (by
    (try simp only [AllP, Int.toNat_natCast, ints_len, decide_eq_true_eq, decide_eq_false_iff_not, beq_eq_false_iff_ne, beq_iff_eq, bne_iff_ne, bne_eq_false_iff_eq, Bool.not_eq_true', Bool.not_eq_false', Int.not_lt, Int.not_le, gt_iff_lt, ge_iff_le, ne_eq, and_true, true_and, unI_ints, Nat.zero_add, List.length_set, Nat.le_refl, List.length_cons])
    all_goals (repeat' (first | with_reducible assumption | with_reducible rfl | omega | with_reducible exact ints_get (by omega) | with_reducible apply And.intro | unfold inInt | with_reducible exact isInts_ints _))) (Ends.cfg rfl h))
theorem mp2_nil {a : List Int} {k : Int} {l0 : List Int} {l1 : List Int} {l3 : List Int} {l4 : List Int} {Q : V → Aev.Rows → Prop} (h0 : 0 ≤ k) (h1 : k < a.length) (hb : a.length ≤ 1073741824) (hx : a.getD k.toNat 0 ≤ 4096) (hc : cls (a.getD k.toNat 0) = 2) (h : Ends c0 0 (HMg a (k + 1) [cell 2 l0, cell 3 l1, .sl 4 1 0 1 1 false, cell 5 l3, cell 6 l4] [cellRow l0, cellRow l1, .live (.dat 1 [.int .i64 k] false), cellRow l3, cellRow l4]) Q) : Ends c0 0 (HMg a (k) [cell 2 l0, cell 3 l1, .nil, cell 5 l3, cell 6 l4] [cellRow l0, cellRow l1, .dead, cellRow l3, cellRow l4]) Q := by
  cases l0 <;> cases l1 <;> cases l3 <;> cases l4 <;> exact Ends.cfg rfl (Ends.turn (c := cP 2) (cP_ok 2) (gds [(15,true)] [(12, el a)] 1) (atLoop 3) 300 [0, 1, 2, 3, 8, 5, 6] [1, 2, 3, 12, 13, 14] (ps := [decide (k < (↑(List.length (ints a)) : Int)) = true, (0 : Int) ≤ k ∧ k < (↑(List.length (ints a)) : Int), (ints a)[Int.toNat k]? = some (D.int IntKind.i64 (List.getD a (Int.toNat k) (0 : Int))), nat_lit 1 = nat_lit 1, List.getD a (Int.toNat k) (0 : Int) ≤ (4096 : Int), cls (List.getD a (Int.toNat k) (0 : Int)) = (2 : Int), List.getD a (Int.toNat k) (0 : Int) ≤ (4096 : Int), cls (List.getD a (Int.toNat k) (0 : Int)) = (2 : Int), nat_lit 1 = nat_lit 1 ∧ nat_lit 1 = nat_lit 1 ∧ nat_lit 1 ≤ nat_lit 1, nat_lit 0 < nat_lit 1 ∧   nat_lit 1 ≠ nat_lit 0 ∧ nat_lit 16 ≤ nat_lit 281474976710656 ∧ nat_lit 1 ≤ nat_lit 4611686018427387904, inInt (k + (1 : Int))]) (by kernel_rfl) (by
    (try simp only [AllP, Int.toNat_natCast, ints_len, decide_eq_true_eq, decide_eq_false_iff_not, beq_eq_false_iff_ne, beq_iff_eq, bne_iff_ne, bne_eq_false_iff_eq, Bool.not_eq_true', Bool.not_eq_false', Int.not_lt, Int.not_le, gt_iff_lt, ge_iff_le, ne_eq, and_true, true_and, unI_ints, Nat.zero_add, List.length_set, Nat.le_refl, List.length_cons])
    all_goals (repeat' (first | with_reducible assumption | with_reducible rfl | omega | with_reducible exact ints_get (by omega) | with_reducible apply And.intro | unfold inInt | with_reducible exact isInts_ints _))) (Ends.cfg rfl h))
theorem mp2_cons {a : List Int} {k : Int} {l0 : List Int} {l1 : List Int} {l3 : List Int} {l4 : List Int} {x : Int} {l : List Int} {Q : V → Aev.Rows → Prop} (h0 : 0 ≤ k) (h1 : k < a.length) (hb : a.length ≤ 1073741824) (hx : a.getD k.toNat 0 ≤ 4096) (hc : cls (a.getD k.toNat 0) = 2) (hl : l.length + 1 ≤ 1073741824) (h : Ends c0 0 (HMg a (k + 1) [cell 2 l0, cell 3 l1, .sl 4 1 0 ((x :: l).length + 1) ((x :: l).length + 1) false, cell 5 l3, cell 6 l4] [cellRow l0, cellRow l1, .live (.dat 1 (List.take (x :: l).length (List.drop 0 (ints (x :: l))) ++ [.int .i64 k]) false), cellRow l3, cellRow l4]) Q) : Ends c0 0 (HMg a (k) [cell 2 l0, cell 3 l1, cell 4 (x :: l), cell 5 l3, cell 6 l4] [cellRow l0, cellRow l1, cellRow (x :: l), cellRow l3, cellRow l4]) Q := by
  cases l0 <;> cases l1 <;> cases l3 <;> cases l4 <;> exact Ends.cfg rfl (Ends.turn (c := cP 2) (cP_ok 2) (gds [(15,true)] [(12, el a)] 1) (atLoop 3) 300 [0, 1, 2, 3, 8, 5, 6] [1, 2, 3, 12, 13, 14] (ps := [decide (k < (↑(List.length (ints a)) : Int)) = true, (0 : Int) ≤ k ∧ k < (↑(List.length (ints a)) : Int), (ints a)[Int.toNat k]? = some (D.int IntKind.i64 (List.getD a (Int.toNat k) (0 : Int))), nat_lit 1 = nat_lit 1, List.getD a (Int.toNat k) (0 : Int) ≤ (4096 : Int), cls (List.getD a (Int.toNat k) (0 : Int)) = (2 : Int), List.getD a (Int.toNat k) (0 : Int) ≤ (4096 : Int), cls (List.getD a (Int.toNat k) (0 : Int)) = (2 : Int), nat_lit 1 = nat_lit 1 ∧ nat_lit 1 = nat_lit 1 ∧ nat_lit 1 ≤ nat_lit 1, nat_lit 0 < nat_lit 1 ∧   nat_lit 1 ≠ nat_lit 0 ∧     nat_lit 1 = nat_lit 1 ∧       nat_lit 1 = nat_lit 1 ∧         nat_lit 0 + List.length (x :: l) ≤ List.length (ints (x :: l)) ∧           ¬List.length (x :: l) + nat_lit 1 ≤ List.length (x :: l) ∧             nat_lit 2 * (List.length (x :: l) + nat_lit 1) * nat_lit 8 ≤ nat_lit 281474976710656 ∧               List.length (x :: l) + nat_lit 1 ≤ nat_lit 4611686018427387904, inInt (k + (1 : Int))]) (by kernel_rfl) (by
    (try simp only [AllP, Int.toNat_natCast, ints_len, decide_eq_true_eq, decide_eq_false_iff_not, beq_eq_false_iff_ne, beq_iff_eq, bne_iff_ne, bne_eq_false_iff_eq, Bool.not_eq_true', Bool.not_eq_false', Int.not_lt, Int.not_le, gt_iff_lt, ge_iff_le, ne_eq, and_true, true_and, unI_ints, Nat.zero_add, List.length_set, Nat.le_refl, List.length_cons])
    all_goals (repeat' (first | with_reducible assumption | with_reducible rfl | omega | with_reducible exact ints_get (by omega) | with_reducible apply And.intro | unfold inInt | with_reducible exact isInts_ints _))) (Ends.cfg rfl h))
theorem mp3_nil {a : List Int} {k : Int} {l0 : List Int} {l1 : List Int} {l2 : List Int} {l4 : List Int} {Q : V → Aev.Rows → Prop} (h0 : 0 ≤ k) (h1 : k < a.length) (hb : a.length ≤ 1073741824) (hx : a.getD k.toNat 0 ≤ 4096) (hc : cls (a.getD k.toNat 0) = 3) (h : Ends c0 0 (HMg a (k + 1) [cell 2 l0, cell 3 l1, cell 4 l2, .sl 5 1 0 1 1 false, cell 6 l4] [cellRow l0, cellRow l1, cellRow l2, .live (.dat 1 [.int .i64 k] false), cellRow l4]) Q) : Ends c0 0 (HMg a (k) [cell 2 l0, cell 3 l1, cell 4 l2, .nil, cell 6 l4] [cellRow l0, cellRow l1, cellRow l2, .dead, cellRow l4]) Q := by
  cases l0 <;> cases l1 <;> cases l2 <;> cases l4 <;> exact Ends.cfg rfl (Ends.turn (c := cP 3) (cP_ok 3) (gds [(15,true)] [(12, el a)] 1) (atLoop 3) 300 [0, 1, 2, 3, 4, 8, 6] [1, 2, 3, 12, 13, 14] (ps := [decide (k < (↑(List.length (ints a)) : Int)) = true, (0 : Int) ≤ k ∧ k < (↑(List.length (ints a)) : Int), (ints a)[Int.toNat k]? = some (D.int IntKind.i64 (List.getD a (Int.toNat k) (0 : Int))), nat_lit 1 = nat_lit 1, List.getD a (Int.toNat k) (0 : Int) ≤ (4096 : Int), cls (List.getD a (Int.toNat k) (0 : Int)) = (3 : Int), List.getD a (Int.toNat k) (0 : Int) ≤ (4096 : Int), cls (List.getD a (Int.toNat k) (0 : Int)) = (3 : Int), nat_lit 1 = nat_lit 1 ∧ nat_lit 1 = nat_lit 1 ∧ nat_lit 1 ≤ nat_lit 1, nat_lit 0 < nat_lit 1 ∧   nat_lit 1 ≠ nat_lit 0 ∧ nat_lit 16 ≤ nat_lit 281474976710656 ∧ nat_lit 1 ≤ nat_lit 4611686018427387904, inInt (k + (1 : Int))]) (by kernel_rfl) (by
    (try simp only [AllP, Int.toNat_natCast, ints_len, decide_eq_true_eq, decide_eq_false_iff_not, beq_eq_false_iff_ne, beq_iff_eq, bne_iff_ne, bne_eq_false_iff_eq, Bool.not_eq_true', Bool.not_eq_false', Int.not_lt, Int.not_le, gt_iff_lt, ge_iff_le, ne_eq, and_true, true_and, unI_ints, Nat.zero_add, List.length_set, Nat.le_refl, List.length_cons])
    all_goals (repeat' (first | with_reducible assumption | with_reducible rfl | omega | with_reducible exact ints_get (by omega) | with_reducible apply And.intro | unfold inInt | with_reducible exact isInts_ints _))) (Ends.cfg rfl h))
theorem mp3_cons {a : List Int} {k : Int} {l0 : List Int} {l1 : List Int} {l2 : List Int} {l4 : List Int} {x : Int} {l : List Int} {Q : V → Aev.Rows → Prop} (h0 : 0 ≤ k) (h1 : k < a.length) (hb : a.length ≤ 1073741824) (hx : a.getD k.toNat 0 ≤ 4096) (hc : cls (a.getD k.toNat 0) = 3) (hl : l.length + 1 ≤ 1073741824) (h : Ends c0 0 (HMg a (k + 1) [cell 2 l0, cell 3 l1, cell 4 l2, .sl 5 1 0 ((x :: l).length + 1) ((x :: l).length + 1) false, cell 6 l4] [cellRow l0, cellRow l1, cellRow l2, .live (.dat 1 (List.take (x :: l).length (List.drop 0 (ints (x :: l))) ++ [.int .i64 k]) false), cellRow l4]) Q) : Ends c0 0 (HMg a (k) [cell 2 l0, cell 3 l1, cell 4 l2, cell 5 (x :: l), cell 6 l4] [cellRow l0, cellRow l1, cellRow l2, cellRow (x :: l), cellRow l4]) Q := by
  cases l0 <;> cases l1 <;> cases l2 <;> cases l4 <;> exact Ends.cfg rfl (Ends.turn (c := cP 3) (cP_ok 3) (gds [(15,true)] [(12, el a)] 1) (atLoop 3) 300 [0, 1, 2, 3, 4, 8, 6] [1, 2, 3, 12, 13, 14] (ps := [decide (k < (↑(List.length (ints a)) : Int)) = true, (0 : Int) ≤ k ∧ k < (↑(List.length (ints a)) : Int), (ints a)[Int.toNat k]? = some (D.int IntKind.i64 (List.getD a (Int.toNat k) (0 : Int))), nat_lit 1 = nat_lit 1, List.getD a (Int.toNat k) (0 : Int) ≤ (4096 : Int), cls (List.getD a (Int.toNat k) (0 : Int)) = (3 : Int), List.getD a (Int.toNat k) (0 : Int) ≤ (4096 : Int), cls (List.getD a (Int.toNat k) (0 : Int)) = (3 : Int), nat_lit 1 = nat_lit 1 ∧ nat_lit 1 = nat_lit 1 ∧ nat_lit 1 ≤ nat_lit 1, nat_lit 0 < nat_lit 1 ∧   nat_lit 1 ≠ nat_lit 0 ∧     nat_lit 1 = nat_lit 1 ∧       nat_lit 1 = nat_lit 1 ∧         nat_lit 0 + List.length (x :: l) ≤ List.length (ints (x :: l)) ∧           ¬List.length (x :: l) + nat_lit 1 ≤ List.length (x :: l) ∧             nat_lit 2 * (List.length (x :: l) + nat_lit 1) * nat_lit 8 ≤ nat_lit 281474976710656 ∧               List.length (x :: l) + nat_lit 1 ≤ nat_lit 4611686018427387904, inInt (k + (1 : Int))]) (by kernel_rfl) (by
    (try simp only [AllP, Int.toNat_natCast, ints_len, decide_eq_true_eq, decide_eq_false_iff_not, beq_eq_false_iff_ne, beq_iff_eq, bne_iff_ne, bne_eq_false_iff_eq, Bool.not_eq_true', Bool.not_eq_false', Int.not_lt, Int.not_le, gt_iff_lt, ge_iff_le, ne_eq, and_true, true_and, unI_ints, Nat.zero_add, List.length_set, Nat.le_refl, List.length_cons])
    all_goals (repeat' (first | with_reducible assumption | with_reducible rfl | omega | with_reducible exact ints_get (by omega) | with_reducible apply And.intro | unfold inInt | with_reducible exact isInts_ints _))) (Ends.cfg rfl h))
theorem mp4_nil {a : List Int} {k : Int} {l0 : List Int} {l1 : List Int} {l2 : List Int} {l3 : List Int} {Q : V → Aev.Rows → Prop} (h0 : 0 ≤ k) (h1 : k < a.length) (hb : a.length ≤ 1073741824) (hx : a.getD k.toNat 0 ≤ 4096) (hc : cls (a.getD k.toNat 0) = 4) (h : Ends c0 0 (HMg a (k + 1) [cell 2 l0, cell 3 l1, cell 4 l2, cell 5 l3, .sl 6 1 0 1 1 false] [cellRow l0, cellRow l1, cellRow l2, cellRow l3, .live (.dat 1 [.int .i64 k] false)]) Q) : Ends c0 0 (HMg a (k) [cell 2 l0, cell 3 l1, cell 4 l2, cell 5 l3, .nil] [cellRow l0, cellRow l1, cellRow l2, cellRow l3, .dead]) Q := by
  cases l0 <;> cases l1 <;> cases l2 <;> cases l3 <;> exact Ends.cfg rfl (Ends.turn (c := cP 4) (cP_ok 4) (gds [(15,true)] [(12, el a)] 1) (atLoop 3) 300 [0, 1, 2, 3, 4, 5, 8] [1, 2, 3, 12, 13, 14] (ps := [decide (k < (↑(List.length (ints a)) : Int)) = true, (0 : Int) ≤ k ∧ k < (↑(List.length (ints a)) : Int), (ints a)[Int.toNat k]? = some (D.int IntKind.i64 (List.getD a (Int.toNat k) (0 : Int))), nat_lit 1 = nat_lit 1, List.getD a (Int.toNat k) (0 : Int) ≤ (4096 : Int), cls (List.getD a (Int.toNat k) (0 : Int)) = (4 : Int), List.getD a (Int.toNat k) (0 : Int) ≤ (4096 : Int), cls (List.getD a (Int.toNat k) (0 : Int)) = (4 : Int), nat_lit 1 = nat_lit 1 ∧ nat_lit 1 = nat_lit 1 ∧ nat_lit 1 ≤ nat_lit 1, nat_lit 0 < nat_lit 1 ∧   nat_lit 1 ≠ nat_lit 0 ∧ nat_lit 16 ≤ nat_lit 281474976710656 ∧ nat_lit 1 ≤ nat_lit 4611686018427387904, inInt (k + (1 : Int))]) (by kernel_rfl) (by
    (try simp only [AllP, Int.toNat_natCast, ints_len, decide_eq_true_eq, decide_eq_false_iff_not, beq_eq_false_iff_ne, beq_iff_eq, bne_iff_ne, bne_eq_false_iff_eq, Bool.not_eq_true', Bool.not_eq_false', Int.not_lt, Int.not_le, gt_iff_lt, ge_iff_le, ne_eq, and_true, true_and, unI_ints, Nat.zero_add, List.length_set, Nat.le_refl, List.length_cons])
    all_goals (repeat' (first | with_reducible assumption | with_reducible rfl | omega | with_reducible exact ints_get (by omega) | with_reducible apply And.intro | unfold inInt | with_reducible exact isInts_ints _))) (Ends.cfg rfl h))
theorem mp4_cons {a : List Int} {k : Int} {l0 : List Int} {l1 : List Int} {l2 : List Int} {l3 : List Int} {x : Int} {l : List Int} {Q : V → Aev.Rows → Prop} (h0 : 0 ≤ k) (h1 : k < a.length) (hb : a.length ≤ 1073741824) (hx : a.getD k.toNat 0 ≤ 4096) (hc : cls (a.getD k.toNat 0) = 4) (hl : l.length + 1 ≤ 1073741824) (h : Ends c0 0 (HMg a (k + 1) [cell 2 l0, cell 3 l1, cell 4 l2, cell 5 l3, .sl 6 1 0 ((x :: l).length + 1) ((x :: l).length + 1) false] [cellRow l0, cellRow l1, cellRow l2, cellRow l3, .live (.dat 1 (List.take (x :: l).length (List.drop 0 (ints (x :: l))) ++ [.int .i64 k]) false)]) Q) : Ends c0 0 (HMg a (k) [cell 2 l0, cell 3 l1, cell 4 l2, cell 5 l3, cell 6 (x :: l)] [cellRow l0, cellRow l1, cellRow l2, cellRow l3, cellRow (x :: l)]) Q := by
  cases l0 <;> cases l1 <;> cases l2 <;> cases l3 <;> exact Ends.cfg rfl (Ends.turn (c := cP 4) (cP_ok 4) (gds [(15,true)] [(12, el a)] 1) (atLoop 3) 300 [0, 1, 2, 3, 4, 5, 8] [1, 2, 3, 12, 13, 14] (ps := [decide (k < (↑(List.length (ints a)) : Int)) = true, (0 : Int) ≤ k ∧ k < (↑(List.length (ints a)) : Int), (ints a)[Int.toNat k]? = some (D.int IntKind.i64 (List.getD a (Int.toNat k) (0 : Int))), nat_lit 1 = nat_lit 1, List.getD a (Int.toNat k) (0 : Int) ≤ (4096 : Int), cls (List.getD a (Int.toNat k) (0 : Int)) = (4 : Int), List.getD a (Int.toNat k) (0 : Int) ≤ (4096 : Int), cls (List.getD a (Int.toNat k) (0 : Int)) = (4 : Int), nat_lit 1 = nat_lit 1 ∧ nat_lit 1 = nat_lit 1 ∧ nat_lit 1 ≤ nat_lit 1, nat_lit 0 < nat_lit 1 ∧   nat_lit 1 ≠ nat_lit 0 ∧     nat_lit 1 = nat_lit 1 ∧       nat_lit 1 = nat_lit 1 ∧         nat_lit 0 + List.length (x :: l) ≤ List.length (ints (x :: l)) ∧           ¬List.length (x :: l) + nat_lit 1 ≤ List.length (x :: l) ∧             nat_lit 2 * (List.length (x :: l) + nat_lit 1) * nat_lit 8 ≤ nat_lit 281474976710656 ∧               List.length (x :: l) + nat_lit 1 ≤ nat_lit 4611686018427387904, inInt (k + (1 : Int))]) (by kernel_rfl) (by
    (try simp only [AllP, Int.toNat_natCast, ints_len, decide_eq_true_eq, decide_eq_false_iff_not, beq_eq_false_iff_ne, beq_iff_eq, bne_iff_ne, bne_eq_false_iff_eq, Bool.not_eq_true', Bool.not_eq_false', Int.not_lt, Int.not_le, gt_iff_lt, ge_iff_le, ne_eq, and_true, true_and, unI_ints, Nat.zero_add, List.length_set, Nat.le_refl, List.length_cons])
    all_goals (repeat' (first | with_reducible assumption | with_reducible rfl | omega | with_reducible exact ints_get (by omega) | with_reducible apply And.intro | unfold inInt | with_reducible exact isInts_ints _))) (Ends.cfg rfl h))
end Go.Aev.M33
end
/- M33MPick2 -/
section
namespace Go.Aev.M33
set_option maxRecDepth 1000000
set_option linter.unusedVariables false
theorem mp0 {a : List Int} {k : Int} {l0 l1 l2 l3 l4 : List Int} {Q : V → Aev.Rows → Prop} (h0 : 0 ≤ k) (h1 : k < a.length) (hb : a.length ≤ 1073741824) (hx : a.getD k.toNat 0 ≤ 4096) (hc : cls (a.getD k.toNat 0) = 0) (hl : l0.length ≤ 1073741824) (h : Ends c0 0 (HM a (k + 1) (l0 ++ [k]) l1 l2 l3 l4) Q) : Ends c0 0 (HM a k l0 l1 l2 l3 l4) Q := by
  cases l0 with
  | nil => exact mp0_nil h0 h1 hb hx hc h
  | cons x l =>
    refine mp0_cons h0 h1 hb hx hc hl ?_
    rw [take_own, ← cell_snoc, ← cellRow_snoc]
    exact h
theorem mp1 {a : List Int} {k : Int} {l0 l1 l2 l3 l4 : List Int} {Q : V → Aev.Rows → Prop} (h0 : 0 ≤ k) (h1 : k < a.length) (hb : a.length ≤ 1073741824) (hx : a.getD k.toNat 0 ≤ 4096) (hc : cls (a.getD k.toNat 0) = 1) (hl : l1.length ≤ 1073741824) (h : Ends c0 0 (HM a (k + 1) l0 (l1 ++ [k]) l2 l3 l4) Q) : Ends c0 0 (HM a k l0 l1 l2 l3 l4) Q := by
  cases l1 with
  | nil => exact mp1_nil h0 h1 hb hx hc h
  | cons x l =>
    refine mp1_cons h0 h1 hb hx hc hl ?_
    rw [take_own, ← cell_snoc, ← cellRow_snoc]
    exact h
theorem mp2 {a : List Int} {k : Int} {l0 l1 l2 l3 l4 : List Int} {Q : V → Aev.Rows → Prop} (h0 : 0 ≤ k) (h1 : k < a.length) (hb : a.length ≤ 1073741824) (hx : a.getD k.toNat 0 ≤ 4096) (hc : cls (a.getD k.toNat 0) = 2) (hl : l2.length ≤ 1073741824) (h : Ends c0 0 (HM a (k + 1) l0 l1 (l2 ++ [k]) l3 l4) Q) : Ends c0 0 (HM a k l0 l1 l2 l3 l4) Q := by
  cases l2 with
  | nil => exact mp2_nil h0 h1 hb hx hc h
  | cons x l =>
    refine mp2_cons h0 h1 hb hx hc hl ?_
    rw [take_own, ← cell_snoc, ← cellRow_snoc]
    exact h
theorem mp3 {a : List Int} {k : Int} {l0 l1 l2 l3 l4 : List Int} {Q : V → Aev.Rows → Prop} (h0 : 0 ≤ k) (h1 : k < a.length) (hb : a.length ≤ 1073741824) (hx : a.getD k.toNat 0 ≤ 4096) (hc : cls (a.getD k.toNat 0) = 3) (hl : l3.length ≤ 1073741824) (h : Ends c0 0 (HM a (k + 1) l0 l1 l2 (l3 ++ [k]) l4) Q) : Ends c0 0 (HM a k l0 l1 l2 l3 l4) Q := by
  cases l3 with
  | nil => exact mp3_nil h0 h1 hb hx hc h
  | cons x l =>
    refine mp3_cons h0 h1 hb hx hc hl ?_
    rw [take_own, ← cell_snoc, ← cellRow_snoc]
    exact h
theorem mp4 {a : List Int} {k : Int} {l0 l1 l2 l3 l4 : List Int} {Q : V → Aev.Rows → Prop} (h0 : 0 ≤ k) (h1 : k < a.length) (hb : a.length ≤ 1073741824) (hx : a.getD k.toNat 0 ≤ 4096) (hc : cls (a.getD k.toNat 0) = 4) (hl : l4.length ≤ 1073741824) (h : Ends c0 0 (HM a (k + 1) l0 l1 l2 l3 (l4 ++ [k])) Q) : Ends c0 0 (HM a k l0 l1 l2 l3 l4) Q := by
  cases l4 with
  | nil => exact mp4_nil h0 h1 hb hx hc h
  | cons x l =>
    refine mp4_cons h0 h1 hb hx hc hl ?_
    rw [take_own, ← cell_snoc, ← cellRow_snoc]
    exact h
/-- the places before k of a class -/
def clsTo (a : List Int) (j : Int) : Nat → List Int
  | 0 => []
  | k + 1 => if cls (a.getD k 0) = j then clsTo a j k ++ [(k : Int)] else clsTo a j k
theorem clsTo_len (a : List Int) (j : Int) : ∀ k, (clsTo a j k).length ≤ k := by
  intro k
  induction k with
  | zero => simp [clsTo]
  | succ k ih =>
    simp only [clsTo]
    split
    · rw [List.length_append, List.length_singleton]; omega
    · omega
theorem clsTo_mem {a : List Int} {j x : Int} : ∀ {k : Nat}, x ∈ clsTo a j k → 0 ≤ x ∧ x < k ∧ cls (a.getD x.toNat 0) = j := by
  intro k
  induction k with
  | zero => intro h; simp [clsTo] at h
  | succ k ih =>
    intro h
    simp only [clsTo] at h
    split at h
    · rename_i hc
      rcases List.mem_append.1 h with h | h
      · have := ih h; exact ⟨by omega, by omega, this.2.2⟩
      · rw [List.mem_singleton] at h; subst h; exact ⟨by omega, by omega, by rw [Int.toNat_natCast]; exact hc⟩
    · have := ih h; exact ⟨by omega, by omega, this.2.2⟩
theorem cls_range (n : Int) : 0 ≤ cls n ∧ cls n ≤ 4 := by
  unfold cls
  repeat' split
  all_goals decide
theorem mp_loop {a : List Int} (hb : a.length ≤ 1073741824) (ha : ∀ x ∈ a, 1 ≤ x ∧ x ≤ 4096) {Q : V → Aev.Rows → Prop} (h : Ends c0 0 (HM a (a.length : Int) (clsTo a 0 a.length) (clsTo a 1 a.length) (clsTo a 2 a.length) (clsTo a 3 a.length) (clsTo a 4 a.length)) Q) :
    ∀ (n k : Nat), k + n = a.length → Ends c0 0 (HM a (k : Int) (clsTo a 0 k) (clsTo a 1 k) (clsTo a 2 k) (clsTo a 3 k) (clsTo a 4 k)) Q := by
  intro n
  induction n with
  | zero => intro k hk; obtain rfl : k = a.length := by omega
            exact h
  | succ n ih =>
    intro k hk
    have h' := ih (k + 1) (by omega)
    have hx : a.getD k 0 ≤ 4096 ∧ 1 ≤ a.getD k 0 := by
      rw [List.getD_eq_getElem?_getD, List.getElem?_eq_getElem (by omega)]
      exact ⟨(ha _ (List.getElem_mem _)).2, (ha _ (List.getElem_mem _)).1⟩
    have hr := cls_range (a.getD k 0)
    have e : ((k + 1 : Nat) : Int) = (k : Int) + 1 := by omega
    rw [e] at h'
    have l0 := clsTo_len a 0 k; have l1 := clsTo_len a 1 k; have l2 := clsTo_len a 2 k; have l3 := clsTo_len a 3 k; have l4 := clsTo_len a 4 k
    have tn : (k : Int).toNat = k := Int.toNat_natCast k
    rcases (by omega : cls (a.getD k 0) = 0 ∨ cls (a.getD k 0) = 1 ∨ cls (a.getD k 0) = 2 ∨ cls (a.getD k 0) = 3 ∨ cls (a.getD k 0) = 4) with hc | hc | hc | hc | hc
    · refine mp0 (by omega) (by omega) hb (by rw [tn]; exact hx.1) (by rw [tn]; exact hc) (by omega) ?_
      simp only [clsTo, hc] at h'
      exact h'
    · refine mp1 (by omega) (by omega) hb (by rw [tn]; exact hx.1) (by rw [tn]; exact hc) (by omega) ?_
      simp only [clsTo, hc] at h'
      exact h'
    · refine mp2 (by omega) (by omega) hb (by rw [tn]; exact hx.1) (by rw [tn]; exact hc) (by omega) ?_
      simp only [clsTo, hc] at h'
      exact h'
    · refine mp3 (by omega) (by omega) hb (by rw [tn]; exact hx.1) (by rw [tn]; exact hc) (by omega) ?_
      simp only [clsTo, hc] at h'
      exact h'
    · refine mp4 (by omega) (by omega) hb (by rw [tn]; exact hx.1) (by rw [tn]; exact hc) (by omega) ?_
      simp only [clsTo, hc] at h'
      exact h'
end Go.Aev.M33
end
/- M33Dead -/
section
namespace Go.Aev
variable {w0 : World} {own : Own} {m : Mp} {S : Nat → Prop} {w : World} {rows : Rows}
theorem Inv.nothingD (inv : Inv w0 own m S w rows) {rd : Rows} (hd : ∀ (r : Nat) (row : Row), rd[r]? ≠ some (.live row)) : Inv w0 own (fun _ => Option.none) S w rd :=
  ⟨fun _ _ => rfl, fun _ _ => rfl, fun r row h => absurd h (hd r row), fun r b o h => (by cases h), fun r row b o h => absurd h (hd r row), fun r r' row row' b o b' o' _ h => absurd h (hd r row), fun r row b o h => absurd h (hd r row),
    fun r row b o h => absurd h (hd r row), inv.sbnd, inv.base, inv.stb, inv.os, inv.tape, inv.output, inv.grow, inv.kept⟩
/-- a contract over lists, with dead rows -/
theorem RCs.of_dead {P : Program} {g : FuncId} {args args' : List V} {v : V} {rd : Rows} (hd : ∀ (r : Nat) (row : Row), rd[r]? ≠ some (.live row)) (h : RCs P g args' rd v) (ha : ArgsRel rows args args') : RCs P g args rows v := by
  intro w0 own m S w vs inv hro hv
  exact h w0 own (fun _ => none) S w vs (inv.nothingD hd) (fun r row h => absurd h (hd r row)) (ha.rel inv hv)
end Go.Aev
end
/- M33MPick3Defs -/
section
namespace Go.Aev.M33
set_option maxRecDepth 1000000
set_option linter.unusedVariables false
def finV (o : List Prop × Out) : List Prop × Option V := match o.2 with
  | .done v _ => (o.1, some v)
  | _ => (o.1, none)
theorem Ends.finR {c : SCfg} {k : Nat} {s : AS} {Q : V → Aev.Rows → Prop} (hc : COK c.cfg) (h : Hint) (n : Nat) {ps : List Prop} {v : V} (e : finV (sRun c h n s) = (ps, some v)) (hp : AllP ps) (hq : ∀ rows, Q v rows) : Ends c k s Q := by
  unfold finV at e
  split at e
  · rename_i v' rows he
    injection e with e1 e2
    injection e2 with e2
    subst e2
    exact Ends.fin hc h n (ps := ps) (v := v') (rows := rows) (by rw [← e1, ← he]) hp (hq rows)
  · injection e with e1 e2
    cases e2
/-- a class's row, with its flag -/
def cellRowF (f : Bool) : List Int → Slot
  | [] => .dead
  | x :: l => .live (.dat 1 (ints (x :: l)) f)
noncomputable def tdQ : List AItem := (nextOf (sTo (cP 0) (gds [(15,false)] [] 1) (atLoop 3) 300 (HM [0] 1 [0] [] [] [] []))).fr.todo
/-- at the loop over the classes -/
noncomputable def HQ (fb f0 f1 f2 f3 f4 : Bool) (a : List Int) (j : Int) (l0 l1 l2 l3 l4 : List Int) : AS :=
  hd 13 tdQ 59 [(1, .pt 0 0 0 0), (2, .nil), (30, .agg [cell 1 l0, cell 2 l1, cell 3 l2, cell 4 l3, cell 5 l4]), (31, I j)]
    [.live (.box [L a] fb), cellRowF f0 l0, cellRowF f1 l1, cellRowF f2 l2, cellRowF f3 l3, cellRowF f4 l4]
noncomputable def tdR : List AItem := (nextOf (sTo (cP 0) (gds [(32,true),(36,false)]) (atLoop 8) 300 (HQ false false false false false false [0] 0 [0,0,0,0] [] [] [] []))).fr.todo
/-- at the loop that sums: ws are the four -/
noncomputable def HT (fb f0 f1 f2 f3 f4 : Bool) (a : List Int) (j : Int) (l0 l1 l2 l3 l4 : List Int) (ws : List D) (n i s : Int) : AS :=
  hd 13 tdR 59 [(1, .pt 0 0 0 0), (2, .nil), (8, .d (.list ws)), (9, I s), (30, .agg [cell 1 l0, cell 2 l1, cell 3 l2, cell 4 l3, cell 5 l4]), (31, I j), (41, .d (.list ws)), (42, I n), (43, I i)]
    [.live (.box [L a] fb), cellRowF f0 l0, cellRowF f1 l1, cellRowF f2 l2, cellRowF f3 l3, cellRowF f4 l4]
end Go.Aev.M33
end
