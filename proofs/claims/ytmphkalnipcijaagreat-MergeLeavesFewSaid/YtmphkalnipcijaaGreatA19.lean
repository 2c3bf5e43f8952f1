/- Lemmas for the statements of this seat: an abstract machine that the model follows, and contracts of functions. Conditions: none. -/
import Derived.Test.YtmphkalnipcijaaGreatA18
set_option linter.unusedVariables false
set_option linter.unusedSimpArgs false
/- M33Law2S2 -/
section
namespace Go.Aev.M33
set_option maxRecDepth 1000000
set_option linter.unusedSimpArgs false
set_option linter.unusedVariables false
theorem law2_c_nil (san : San) {a s : List Int} {tot m : Int} {Q : V → Aev.Rows → Prop} (hne : a ≠ []) (hb : a.length ≤ 80) (ha : ∀ x ∈ a, 1 ≤ x ∧ x ≤ 4096) (hs : Settled a s m) (h : Ends c0 0 (H4c a tot .nil s m 0 0 0 0 0 0 0) Q) : Ends c0 0 (H4b a tot .nil 0) Q :=
  Ends.cfg rfl (Ends.turn (c := (cL .nil s m)) (cL_ok san _ _ _) (gds [(35,false)]) (atLoop 2) 300 [0] [0, 3, 5, 7, 8, 9, 10, 11] (ps := [false = false, isInts (ints a), List.map unI (ints a) ≠ [], List.length (ints a) ≤ nat_lit 1073741823, ∀ (x : Int), x ∈ List.map unI (ints a) → (1 : Int) ≤ x ∧ x ≤ (4096 : Int), Settled (List.map unI (ints a)) s m]) (by kernel_rfl) (by
    (try simp only [AllP, Int.toNat_natCast, ints_len, decide_eq_true_eq, decide_eq_false_iff_not, beq_eq_false_iff_ne, beq_iff_eq, bne_iff_ne, bne_eq_false_iff_eq, Bool.not_eq_true', Bool.not_eq_false', Int.not_lt, Int.not_le, gt_iff_lt, ge_iff_le, ne_eq, and_true, true_and, unI_ints, Nat.zero_add, List.length_cons, List.length_nil, Nat.sub_zero, Int.zero_add, List.nil_append, List.drop_zero, ints_all, Int.add_zero, Int.natCast_zero, Int.toNat_zero])
    all_goals (repeat' (first | with_reducible assumption | with_reducible rfl | omega | with_reducible exact ints_get (by omega) | with_reducible apply And.intro | unfold inInt | with_reducible exact isInts_ints _ | exact rfl | exact ints_ne (by assumption) | (simp; done)))) (Ends.cfg rfl h))
theorem law2_c_some (san : San) {a q s : List Int} {tot m i : Int} {Q : V → Aev.Rows → Prop} (hne : a ≠ []) (hb : a.length ≤ 80) (ha : ∀ x ∈ a, 1 ≤ x ∧ x ≤ 4096) (hs : Settled a s m) (h1 : (q.length : Int) ≤ i) (h4 : q.length = 4) (hq : ∀ i ∈ q, 0 ≤ i ∧ i < (a.length : Int)) (ha0 : ∀ x ∈ a, 0 ≤ x ∧ x ≤ 4096) (hsum : sumAt a q ≤ 4096) (hq4 : (q.length : Int) = 4) (hqn : (q.length : Int) ≠ 0) (h : Ends c0 0 (H4c a tot (L q) s m 0 0 0 0 0 0 0) Q) : Ends c0 0 (H4b a tot (L q) i) Q :=
  Ends.cfg rfl (Ends.turn (c := (cL .nil s m)) (cL_ok san _ _ _) (gds [(35,false),(89,true),(93,false),(99,false)]) (atLoop 2) 300 [0] [0, 3, 5, 7, 8, 9, 10, 11] (ps := [decide (i < (↑(List.length (ints q)) : Int)) = false, ((↑(List.length (ints q)) : Int) != (0 : Int)) = true, ((↑(List.length (ints q)) : Int) != (0 : Int)) = true, ((↑(List.length (ints q)) : Int) != (0 : Int)) = true, ((↑(List.length (ints q)) : Int) != (0 : Int)) = true, ((↑(List.length (ints q)) : Int) != (4 : Int)) = false, ((↑(List.length (ints q)) : Int) != (4 : Int)) = false, ((↑(List.length (ints q)) : Int) != (4 : Int)) = false, isInts (ints a), isInts (ints q), List.length (ints q) ≤ nat_lit 1073741824, ∀ (i : Int), i ∈ List.map unI (ints q) → (0 : Int) ≤ i ∧ i < (↑(List.length (List.map unI (ints a))) : Int), ∀ (x : Int), x ∈ List.map unI (ints a) → (0 : Int) ≤ x ∧ x ≤ (4096 : Int), ((↑(List.length (ints q)) : Int) != (4 : Int)) = false, ((↑(List.length (ints q)) : Int) != (0 : Int)) = true, ((↑(List.length (ints q)) : Int) != (4 : Int)) = false, ((↑(List.length (ints q)) : Int) != (0 : Int)) = true, decide (sumAt (List.map unI (ints a)) (List.map unI (ints q)) > (4096 : Int)) = false, isInts (ints a), List.map unI (ints a) ≠ [], List.length (ints a) ≤ nat_lit 1073741823, ∀ (x : Int), x ∈ List.map unI (ints a) → (1 : Int) ≤ x ∧ x ≤ (4096 : Int), Settled (List.map unI (ints a)) s m]) (by kernel_rfl) (by
    (try simp only [AllP, Int.toNat_natCast, ints_len, decide_eq_true_eq, decide_eq_false_iff_not, beq_eq_false_iff_ne, beq_iff_eq, bne_iff_ne, bne_eq_false_iff_eq, Bool.not_eq_true', Bool.not_eq_false', Int.not_lt, Int.not_le, gt_iff_lt, ge_iff_le, ne_eq, and_true, true_and, unI_ints, Nat.zero_add, List.length_cons, List.length_nil, Nat.sub_zero, Int.zero_add, List.nil_append, List.drop_zero, ints_all, Int.add_zero, Int.natCast_zero, Int.toNat_zero])
    all_goals (repeat' (first | with_reducible assumption | with_reducible rfl | omega | with_reducible exact ints_get (by omega) | with_reducible apply And.intro | unfold inInt | with_reducible exact isInts_ints _ | exact rfl | exact ints_ne (by assumption) | (simp; done)))) (Ends.cfg rfl h))
theorem law2_t0_nil (san : San) {a s : List Int} {tot m sum k n0 n1 n2 n3 n4 : Int} {Q : V → Aev.Rows → Prop} (h0 : 0 ≤ k) (h1 : k < (s.length : Int)) (hb : s.length ≤ 80) (hx : 1 ≤ s.getD k.toNat 0 ∧ s.getD k.toNat 0 ≤ 4096) (hc : cls (s.getD k.toNat 0) = 0) (hs : inInt (sum + s.getD k.toNat 0)) (hk : inInt (n0 + 1)) (h : Ends c0 0 (H4c a tot .nil s m (sum + s.getD k.toNat 0) (k + 1) (n0 + 1) n1 n2 n3 n4) Q) : Ends c0 0 (H4c a tot .nil s m sum k n0 n1 n2 n3 n4) Q :=
  Ends.cfg rfl (Ends.turn (c := (cK 0)) (cK_ok san 0) (h4c s) (atLoop 2) 300 [0] [0, 3, 5, 7, 8, 9, 10, 11] (ps := [decide (k < (↑(List.length (ints s)) : Int)) = true, (0 : Int) ≤ k ∧ k < (↑(List.length (ints s)) : Int), (ints s)[Int.toNat k]? = some (D.int IntKind.i64 (List.getD s (Int.toNat k) (0 : Int))), nat_lit 1 = nat_lit 1, decide (List.getD s (Int.toNat k) (0 : Int) < (1 : Int)) = false, decide (List.getD s (Int.toNat k) (0 : Int) < (1 : Int)) = false, decide (List.getD s (Int.toNat k) (0 : Int) < (1 : Int)) = false, (0 : Int) ≤ k ∧ k < (↑(List.length (ints s)) : Int), (ints s)[Int.toNat k]? = some (D.int IntKind.i64 (List.getD s (Int.toNat k) (0 : Int))), nat_lit 1 = nat_lit 1, decide (List.getD s (Int.toNat k) (0 : Int) < (1 : Int)) = false, decide (List.getD s (Int.toNat k) (0 : Int) < (1 : Int)) = false, decide (List.getD s (Int.toNat k) (0 : Int) < (1 : Int)) = false, decide (List.getD s (Int.toNat k) (0 : Int) > (4096 : Int)) = false, (0 : Int) ≤ k ∧ k < (↑(List.length (ints s)) : Int), (ints s)[Int.toNat k]? = some (D.int IntKind.i64 (List.getD s (Int.toNat k) (0 : Int))), nat_lit 1 = nat_lit 1, inInt (sum + List.getD s (Int.toNat k) (0 : Int)), (0 : Int) ≤ k ∧ k < (↑(List.length (ints s)) : Int), (ints s)[Int.toNat k]? = some (D.int IntKind.i64 (List.getD s (Int.toNat k) (0 : Int))), nat_lit 1 = nat_lit 1, List.getD s (Int.toNat k) (0 : Int) ≤ (4096 : Int), cls (List.getD s (Int.toNat k) (0 : Int)) = (0 : Int), inInt (n0 + (1 : Int)), inInt (k + (1 : Int))]) (by kernel_rfl) (by
    (try simp only [AllP, Int.toNat_natCast, ints_len, decide_eq_true_eq, decide_eq_false_iff_not, beq_eq_false_iff_ne, beq_iff_eq, bne_iff_ne, bne_eq_false_iff_eq, Bool.not_eq_true', Bool.not_eq_false', Int.not_lt, Int.not_le, gt_iff_lt, ge_iff_le, ne_eq, and_true, true_and, unI_ints, Nat.zero_add, List.length_cons, List.length_nil, Nat.sub_zero, Int.zero_add, List.nil_append, List.drop_zero, ints_all, Int.add_zero, Int.natCast_zero, Int.toNat_zero])
    all_goals (repeat' (first | with_reducible assumption | with_reducible rfl | omega | with_reducible exact ints_get (by omega) | with_reducible apply And.intro | unfold inInt | with_reducible exact isInts_ints _ | exact rfl | exact ints_ne (by assumption) | (simp; done)))) (Ends.cfg rfl h))
theorem law2_t1_nil (san : San) {a s : List Int} {tot m sum k n0 n1 n2 n3 n4 : Int} {Q : V → Aev.Rows → Prop} (h0 : 0 ≤ k) (h1 : k < (s.length : Int)) (hb : s.length ≤ 80) (hx : 1 ≤ s.getD k.toNat 0 ∧ s.getD k.toNat 0 ≤ 4096) (hc : cls (s.getD k.toNat 0) = 1) (hs : inInt (sum + s.getD k.toNat 0)) (hk : inInt (n1 + 1)) (h : Ends c0 0 (H4c a tot .nil s m (sum + s.getD k.toNat 0) (k + 1) n0 (n1 + 1) n2 n3 n4) Q) : Ends c0 0 (H4c a tot .nil s m sum k n0 n1 n2 n3 n4) Q :=
  Ends.cfg rfl (Ends.turn (c := (cK 1)) (cK_ok san 1) (h4c s) (atLoop 2) 300 [0] [0, 3, 5, 7, 8, 9, 10, 11] (ps := [decide (k < (↑(List.length (ints s)) : Int)) = true, (0 : Int) ≤ k ∧ k < (↑(List.length (ints s)) : Int), (ints s)[Int.toNat k]? = some (D.int IntKind.i64 (List.getD s (Int.toNat k) (0 : Int))), nat_lit 1 = nat_lit 1, decide (List.getD s (Int.toNat k) (0 : Int) < (1 : Int)) = false, decide (List.getD s (Int.toNat k) (0 : Int) < (1 : Int)) = false, decide (List.getD s (Int.toNat k) (0 : Int) < (1 : Int)) = false, (0 : Int) ≤ k ∧ k < (↑(List.length (ints s)) : Int), (ints s)[Int.toNat k]? = some (D.int IntKind.i64 (List.getD s (Int.toNat k) (0 : Int))), nat_lit 1 = nat_lit 1, decide (List.getD s (Int.toNat k) (0 : Int) < (1 : Int)) = false, decide (List.getD s (Int.toNat k) (0 : Int) < (1 : Int)) = false, decide (List.getD s (Int.toNat k) (0 : Int) < (1 : Int)) = false, decide (List.getD s (Int.toNat k) (0 : Int) > (4096 : Int)) = false, (0 : Int) ≤ k ∧ k < (↑(List.length (ints s)) : Int), (ints s)[Int.toNat k]? = some (D.int IntKind.i64 (List.getD s (Int.toNat k) (0 : Int))), nat_lit 1 = nat_lit 1, inInt (sum + List.getD s (Int.toNat k) (0 : Int)), (0 : Int) ≤ k ∧ k < (↑(List.length (ints s)) : Int), (ints s)[Int.toNat k]? = some (D.int IntKind.i64 (List.getD s (Int.toNat k) (0 : Int))), nat_lit 1 = nat_lit 1, List.getD s (Int.toNat k) (0 : Int) ≤ (4096 : Int), cls (List.getD s (Int.toNat k) (0 : Int)) = (1 : Int), inInt (n1 + (1 : Int)), inInt (k + (1 : Int))]) (by kernel_rfl) (by
    (try simp only [AllP, Int.toNat_natCast, ints_len, decide_eq_true_eq, decide_eq_false_iff_not, beq_eq_false_iff_ne, beq_iff_eq, bne_iff_ne, bne_eq_false_iff_eq, Bool.not_eq_true', Bool.not_eq_false', Int.not_lt, Int.not_le, gt_iff_lt, ge_iff_le, ne_eq, and_true, true_and, unI_ints, Nat.zero_add, List.length_cons, List.length_nil, Nat.sub_zero, Int.zero_add, List.nil_append, List.drop_zero, ints_all, Int.add_zero, Int.natCast_zero, Int.toNat_zero])
    all_goals (repeat' (first | with_reducible assumption | with_reducible rfl | omega | with_reducible exact ints_get (by omega) | with_reducible apply And.intro | unfold inInt | with_reducible exact isInts_ints _ | exact rfl | exact ints_ne (by assumption) | (simp; done)))) (Ends.cfg rfl h))
theorem law2_t2_nil (san : San) {a s : List Int} {tot m sum k n0 n1 n2 n3 n4 : Int} {Q : V → Aev.Rows → Prop} (h0 : 0 ≤ k) (h1 : k < (s.length : Int)) (hb : s.length ≤ 80) (hx : 1 ≤ s.getD k.toNat 0 ∧ s.getD k.toNat 0 ≤ 4096) (hc : cls (s.getD k.toNat 0) = 2) (hs : inInt (sum + s.getD k.toNat 0)) (hk : inInt (n2 + 1)) (h : Ends c0 0 (H4c a tot .nil s m (sum + s.getD k.toNat 0) (k + 1) n0 n1 (n2 + 1) n3 n4) Q) : Ends c0 0 (H4c a tot .nil s m sum k n0 n1 n2 n3 n4) Q :=
  Ends.cfg rfl (Ends.turn (c := (cK 2)) (cK_ok san 2) (h4c s) (atLoop 2) 300 [0] [0, 3, 5, 7, 8, 9, 10, 11] (ps := [decide (k < (↑(List.length (ints s)) : Int)) = true, (0 : Int) ≤ k ∧ k < (↑(List.length (ints s)) : Int), (ints s)[Int.toNat k]? = some (D.int IntKind.i64 (List.getD s (Int.toNat k) (0 : Int))), nat_lit 1 = nat_lit 1, decide (List.getD s (Int.toNat k) (0 : Int) < (1 : Int)) = false, decide (List.getD s (Int.toNat k) (0 : Int) < (1 : Int)) = false, decide (List.getD s (Int.toNat k) (0 : Int) < (1 : Int)) = false, (0 : Int) ≤ k ∧ k < (↑(List.length (ints s)) : Int), (ints s)[Int.toNat k]? = some (D.int IntKind.i64 (List.getD s (Int.toNat k) (0 : Int))), nat_lit 1 = nat_lit 1, decide (List.getD s (Int.toNat k) (0 : Int) < (1 : Int)) = false, decide (List.getD s (Int.toNat k) (0 : Int) < (1 : Int)) = false, decide (List.getD s (Int.toNat k) (0 : Int) < (1 : Int)) = false, decide (List.getD s (Int.toNat k) (0 : Int) > (4096 : Int)) = false, (0 : Int) ≤ k ∧ k < (↑(List.length (ints s)) : Int), (ints s)[Int.toNat k]? = some (D.int IntKind.i64 (List.getD s (Int.toNat k) (0 : Int))), nat_lit 1 = nat_lit 1, inInt (sum + List.getD s (Int.toNat k) (0 : Int)), (0 : Int) ≤ k ∧ k < (↑(List.length (ints s)) : Int), (ints s)[Int.toNat k]? = some (D.int IntKind.i64 (List.getD s (Int.toNat k) (0 : Int))), nat_lit 1 = nat_lit 1, List.getD s (Int.toNat k) (0 : Int) ≤ (4096 : Int), cls (List.getD s (Int.toNat k) (0 : Int)) = (2 : Int), inInt (n2 + (1 : Int)), inInt (k + (1 : Int))]) (by kernel_rfl) (by
    (try simp only [AllP, Int.toNat_natCast, ints_len, decide_eq_true_eq, decide_eq_false_iff_not, beq_eq_false_iff_ne, beq_iff_eq, bne_iff_ne, bne_eq_false_iff_eq, Bool.not_eq_true', Bool.not_eq_false', Int.not_lt, Int.not_le, gt_iff_lt, ge_iff_le, ne_eq, and_true, true_and, unI_ints, Nat.zero_add, List.length_cons, List.length_nil, Nat.sub_zero, Int.zero_add, List.nil_append, List.drop_zero, ints_all, Int.add_zero, Int.natCast_zero, Int.toNat_zero])
    all_goals (repeat' (first | with_reducible assumption | with_reducible rfl | omega | with_reducible exact ints_get (by omega) | with_reducible apply And.intro | unfold inInt | with_reducible exact isInts_ints _ | exact rfl | exact ints_ne (by assumption) | (simp; done)))) (Ends.cfg rfl h))
theorem law2_t3_nil (san : San) {a s : List Int} {tot m sum k n0 n1 n2 n3 n4 : Int} {Q : V → Aev.Rows → Prop} (h0 : 0 ≤ k) (h1 : k < (s.length : Int)) (hb : s.length ≤ 80) (hx : 1 ≤ s.getD k.toNat 0 ∧ s.getD k.toNat 0 ≤ 4096) (hc : cls (s.getD k.toNat 0) = 3) (hs : inInt (sum + s.getD k.toNat 0)) (hk : inInt (n3 + 1)) (h : Ends c0 0 (H4c a tot .nil s m (sum + s.getD k.toNat 0) (k + 1) n0 n1 n2 (n3 + 1) n4) Q) : Ends c0 0 (H4c a tot .nil s m sum k n0 n1 n2 n3 n4) Q :=
  Ends.cfg rfl (Ends.turn (c := (cK 3)) (cK_ok san 3) (h4c s) (atLoop 2) 300 [0] [0, 3, 5, 7, 8, 9, 10, 11] (ps := [decide (k < (↑(List.length (ints s)) : Int)) = true, (0 : Int) ≤ k ∧ k < (↑(List.length (ints s)) : Int), (ints s)[Int.toNat k]? = some (D.int IntKind.i64 (List.getD s (Int.toNat k) (0 : Int))), nat_lit 1 = nat_lit 1, decide (List.getD s (Int.toNat k) (0 : Int) < (1 : Int)) = false, decide (List.getD s (Int.toNat k) (0 : Int) < (1 : Int)) = false, decide (List.getD s (Int.toNat k) (0 : Int) < (1 : Int)) = false, (0 : Int) ≤ k ∧ k < (↑(List.length (ints s)) : Int), (ints s)[Int.toNat k]? = some (D.int IntKind.i64 (List.getD s (Int.toNat k) (0 : Int))), nat_lit 1 = nat_lit 1, decide (List.getD s (Int.toNat k) (0 : Int) < (1 : Int)) = false, decide (List.getD s (Int.toNat k) (0 : Int) < (1 : Int)) = false, decide (List.getD s (Int.toNat k) (0 : Int) < (1 : Int)) = false, decide (List.getD s (Int.toNat k) (0 : Int) > (4096 : Int)) = false, (0 : Int) ≤ k ∧ k < (↑(List.length (ints s)) : Int), (ints s)[Int.toNat k]? = some (D.int IntKind.i64 (List.getD s (Int.toNat k) (0 : Int))), nat_lit 1 = nat_lit 1, inInt (sum + List.getD s (Int.toNat k) (0 : Int)), (0 : Int) ≤ k ∧ k < (↑(List.length (ints s)) : Int), (ints s)[Int.toNat k]? = some (D.int IntKind.i64 (List.getD s (Int.toNat k) (0 : Int))), nat_lit 1 = nat_lit 1, List.getD s (Int.toNat k) (0 : Int) ≤ (4096 : Int), cls (List.getD s (Int.toNat k) (0 : Int)) = (3 : Int), inInt (n3 + (1 : Int)), inInt (k + (1 : Int))]) (by kernel_rfl) (by
    (try simp only [AllP, Int.toNat_natCast, ints_len, decide_eq_true_eq, decide_eq_false_iff_not, beq_eq_false_iff_ne, beq_iff_eq, bne_iff_ne, bne_eq_false_iff_eq, Bool.not_eq_true', Bool.not_eq_false', Int.not_lt, Int.not_le, gt_iff_lt, ge_iff_le, ne_eq, and_true, true_and, unI_ints, Nat.zero_add, List.length_cons, List.length_nil, Nat.sub_zero, Int.zero_add, List.nil_append, List.drop_zero, ints_all, Int.add_zero, Int.natCast_zero, Int.toNat_zero])
    all_goals (repeat' (first | with_reducible assumption | with_reducible rfl | omega | with_reducible exact ints_get (by omega) | with_reducible apply And.intro | unfold inInt | with_reducible exact isInts_ints _ | exact rfl | exact ints_ne (by assumption) | (simp; done)))) (Ends.cfg rfl h))
theorem law2_t4_nil (san : San) {a s : List Int} {tot m sum k n0 n1 n2 n3 n4 : Int} {Q : V → Aev.Rows → Prop} (h0 : 0 ≤ k) (h1 : k < (s.length : Int)) (hb : s.length ≤ 80) (hx : 1 ≤ s.getD k.toNat 0 ∧ s.getD k.toNat 0 ≤ 4096) (hc : cls (s.getD k.toNat 0) = 4) (hs : inInt (sum + s.getD k.toNat 0)) (hk : inInt (n4 + 1)) (h : Ends c0 0 (H4c a tot .nil s m (sum + s.getD k.toNat 0) (k + 1) n0 n1 n2 n3 (n4 + 1)) Q) : Ends c0 0 (H4c a tot .nil s m sum k n0 n1 n2 n3 n4) Q :=
  Ends.cfg rfl (Ends.turn (c := (cK 4)) (cK_ok san 4) (h4c s) (atLoop 2) 300 [0] [0, 3, 5, 7, 8, 9, 10, 11] (ps := [decide (k < (↑(List.length (ints s)) : Int)) = true, (0 : Int) ≤ k ∧ k < (↑(List.length (ints s)) : Int), (ints s)[Int.toNat k]? = some (D.int IntKind.i64 (List.getD s (Int.toNat k) (0 : Int))), nat_lit 1 = nat_lit 1, decide (List.getD s (Int.toNat k) (0 : Int) < (1 : Int)) = false, decide (List.getD s (Int.toNat k) (0 : Int) < (1 : Int)) = false, decide (List.getD s (Int.toNat k) (0 : Int) < (1 : Int)) = false, (0 : Int) ≤ k ∧ k < (↑(List.length (ints s)) : Int), (ints s)[Int.toNat k]? = some (D.int IntKind.i64 (List.getD s (Int.toNat k) (0 : Int))), nat_lit 1 = nat_lit 1, decide (List.getD s (Int.toNat k) (0 : Int) < (1 : Int)) = false, decide (List.getD s (Int.toNat k) (0 : Int) < (1 : Int)) = false, decide (List.getD s (Int.toNat k) (0 : Int) < (1 : Int)) = false, decide (List.getD s (Int.toNat k) (0 : Int) > (4096 : Int)) = false, (0 : Int) ≤ k ∧ k < (↑(List.length (ints s)) : Int), (ints s)[Int.toNat k]? = some (D.int IntKind.i64 (List.getD s (Int.toNat k) (0 : Int))), nat_lit 1 = nat_lit 1, inInt (sum + List.getD s (Int.toNat k) (0 : Int)), (0 : Int) ≤ k ∧ k < (↑(List.length (ints s)) : Int), (ints s)[Int.toNat k]? = some (D.int IntKind.i64 (List.getD s (Int.toNat k) (0 : Int))), nat_lit 1 = nat_lit 1, List.getD s (Int.toNat k) (0 : Int) ≤ (4096 : Int), cls (List.getD s (Int.toNat k) (0 : Int)) = (4 : Int), inInt (n4 + (1 : Int)), inInt (k + (1 : Int))]) (by kernel_rfl) (by
    (try simp only [AllP, Int.toNat_natCast, ints_len, decide_eq_true_eq, decide_eq_false_iff_not, beq_eq_false_iff_ne, beq_iff_eq, bne_iff_ne, bne_eq_false_iff_eq, Bool.not_eq_true', Bool.not_eq_false', Int.not_lt, Int.not_le, gt_iff_lt, ge_iff_le, ne_eq, and_true, true_and, unI_ints, Nat.zero_add, List.length_cons, List.length_nil, Nat.sub_zero, Int.zero_add, List.nil_append, List.drop_zero, ints_all, Int.add_zero, Int.natCast_zero, Int.toNat_zero])
    all_goals (repeat' (first | with_reducible assumption | with_reducible rfl | omega | with_reducible exact ints_get (by omega) | with_reducible apply And.intro | unfold inInt | with_reducible exact isInts_ints _ | exact rfl | exact ints_ne (by assumption) | (simp; done)))) (Ends.cfg rfl h))
theorem law2_end_nil (san : San) {a s : List Int} {tot m sum k n0 n1 n2 n3 n4 : Int} {Q : V → Aev.Rows → Prop} (h1 : (s.length : Int) ≤ k) (hb : s.length ≤ 80) (hs : ∀ x ∈ s, 1 ≤ x ∧ x ≤ 4096) (hr : vOf (refPick s) = .nil) (k0 : n0 < 4) (k1 : n1 < 4) (k2 : n2 < 4) (k3 : n3 < 4) (he : sum = tot) (hd : IntKind.wrap .i64 (tot.tdiv 1025) = tot / 1025) (hi : inInt (12 + tot / 1025)) (hl : (s.length : Int) ≤ 12 + tot / 1025) (hm : 0 ≤ m) (h : ∀ rows, Q (.d (.bool ((m == 0) == true))) rows) : Ends c0 0 (H4c a tot .nil s m sum k n0 n1 n2 n3 n4) Q :=
  Ends.cfg rfl (Ends.finR (c := (cL .nil [] 0)) (cL_ok san _ _ _) (gds [(108,false),(152,false),(159,true),(165,true),(173,true),(177,true)]) 300 (ps := [decide (k < (↑(List.length (ints s)) : Int)) = false, decide (n0 ≥ (4 : Int)) = false, inInt (1 : Int), decide (n1 ≥ (4 : Int)) = false, inInt (2 : Int), decide (n2 ≥ (4 : Int)) = false, inInt (3 : Int), decide (n3 ≥ (4 : Int)) = false, inInt (4 : Int), (sum == tot) = true, (sum == tot) = true, isInts (ints s), List.length (ints s) ≤ nat_lit 1073741824, ∀ (x : Int), x ∈ List.map unI (ints s) → (1 : Int) ≤ x ∧ x ≤ (4096 : Int), vOf (refPick (List.map unI (ints s))) = V.nil, (sum == tot) = true, (sum == tot) = true, (sum == tot) = true, true = true, true = true, true = true, true = true, true = true, inInt ((12 : Int) + IntKind.wrap IntKind.i64 (Int.tdiv tot (1025 : Int))), true = true, true = true, decide ((↑(List.length (ints s)) : Int) ≤ (12 : Int) + IntKind.wrap IntKind.i64 (Int.tdiv tot (1025 : Int))) = true, decide ((↑(List.length (ints s)) : Int) ≤ (12 : Int) + IntKind.wrap IntKind.i64 (Int.tdiv tot (1025 : Int))) = true, decide ((↑(List.length (ints s)) : Int) ≤ (12 : Int) + IntKind.wrap IntKind.i64 (Int.tdiv tot (1025 : Int))) = true, decide (m ≥ (0 : Int)) = true, decide (m ≥ (0 : Int)) = true, decide (m ≥ (0 : Int)) = true, decide (m ≥ (0 : Int)) = true, decide (m ≥ (0 : Int)) = true, decide (m ≥ (0 : Int)) = true, decide (m ≥ (0 : Int)) = true]) (v := .d (.bool ((m == 0) == true))) (by kernel_rfl) (by
    (try simp only [AllP, Int.toNat_natCast, ints_len, decide_eq_true_eq, decide_eq_false_iff_not, beq_eq_false_iff_ne, beq_iff_eq, bne_iff_ne, bne_eq_false_iff_eq, Bool.not_eq_true', Bool.not_eq_false', Int.not_lt, Int.not_le, gt_iff_lt, ge_iff_le, ne_eq, and_true, true_and, unI_ints, Nat.zero_add, List.length_cons, List.length_nil, Nat.sub_zero, Int.zero_add, List.nil_append, List.drop_zero, ints_all, Int.add_zero, Int.natCast_zero, Int.toNat_zero, hd])
    all_goals (repeat' (first | with_reducible assumption | with_reducible rfl | omega | with_reducible exact ints_get (by omega) | with_reducible apply And.intro | unfold inInt | with_reducible exact isInts_ints _ | exact rfl | exact ints_ne (by assumption) | (simp; done)))) h)
theorem law2_t0_some (san : San) {q : List Int} {a s : List Int} {tot m sum k n0 n1 n2 n3 n4 : Int} {Q : V → Aev.Rows → Prop} (h0 : 0 ≤ k) (h1 : k < (s.length : Int)) (hb : s.length ≤ 80) (hx : 1 ≤ s.getD k.toNat 0 ∧ s.getD k.toNat 0 ≤ 4096) (hc : cls (s.getD k.toNat 0) = 0) (hs : inInt (sum + s.getD k.toNat 0)) (hk : inInt (n0 + 1)) (h : Ends c0 0 (H4c a tot (L q) s m (sum + s.getD k.toNat 0) (k + 1) (n0 + 1) n1 n2 n3 n4) Q) : Ends c0 0 (H4c a tot (L q) s m sum k n0 n1 n2 n3 n4) Q :=
  Ends.cfg rfl (Ends.turn (c := (cK 0)) (cK_ok san 0) (h4c s) (atLoop 2) 300 [0] [0, 3, 5, 7, 8, 9, 10, 11] (ps := [decide (k < (↑(List.length (ints s)) : Int)) = true, (0 : Int) ≤ k ∧ k < (↑(List.length (ints s)) : Int), (ints s)[Int.toNat k]? = some (D.int IntKind.i64 (List.getD s (Int.toNat k) (0 : Int))), nat_lit 1 = nat_lit 1, decide (List.getD s (Int.toNat k) (0 : Int) < (1 : Int)) = false, decide (List.getD s (Int.toNat k) (0 : Int) < (1 : Int)) = false, decide (List.getD s (Int.toNat k) (0 : Int) < (1 : Int)) = false, (0 : Int) ≤ k ∧ k < (↑(List.length (ints s)) : Int), (ints s)[Int.toNat k]? = some (D.int IntKind.i64 (List.getD s (Int.toNat k) (0 : Int))), nat_lit 1 = nat_lit 1, decide (List.getD s (Int.toNat k) (0 : Int) < (1 : Int)) = false, decide (List.getD s (Int.toNat k) (0 : Int) < (1 : Int)) = false, decide (List.getD s (Int.toNat k) (0 : Int) < (1 : Int)) = false, decide (List.getD s (Int.toNat k) (0 : Int) > (4096 : Int)) = false, (0 : Int) ≤ k ∧ k < (↑(List.length (ints s)) : Int), (ints s)[Int.toNat k]? = some (D.int IntKind.i64 (List.getD s (Int.toNat k) (0 : Int))), nat_lit 1 = nat_lit 1, inInt (sum + List.getD s (Int.toNat k) (0 : Int)), (0 : Int) ≤ k ∧ k < (↑(List.length (ints s)) : Int), (ints s)[Int.toNat k]? = some (D.int IntKind.i64 (List.getD s (Int.toNat k) (0 : Int))), nat_lit 1 = nat_lit 1, List.getD s (Int.toNat k) (0 : Int) ≤ (4096 : Int), cls (List.getD s (Int.toNat k) (0 : Int)) = (0 : Int), inInt (n0 + (1 : Int)), inInt (k + (1 : Int))]) (by kernel_rfl) (by
    (try simp only [AllP, Int.toNat_natCast, ints_len, decide_eq_true_eq, decide_eq_false_iff_not, beq_eq_false_iff_ne, beq_iff_eq, bne_iff_ne, bne_eq_false_iff_eq, Bool.not_eq_true', Bool.not_eq_false', Int.not_lt, Int.not_le, gt_iff_lt, ge_iff_le, ne_eq, and_true, true_and, unI_ints, Nat.zero_add, List.length_cons, List.length_nil, Nat.sub_zero, Int.zero_add, List.nil_append, List.drop_zero, ints_all, Int.add_zero, Int.natCast_zero, Int.toNat_zero])
    all_goals (repeat' (first | with_reducible assumption | with_reducible rfl | omega | with_reducible exact ints_get (by omega) | with_reducible apply And.intro | unfold inInt | with_reducible exact isInts_ints _ | exact rfl | exact ints_ne (by assumption) | (simp; done)))) (Ends.cfg rfl h))
theorem law2_t1_some (san : San) {q : List Int} {a s : List Int} {tot m sum k n0 n1 n2 n3 n4 : Int} {Q : V → Aev.Rows → Prop} (h0 : 0 ≤ k) (h1 : k < (s.length : Int)) (hb : s.length ≤ 80) (hx : 1 ≤ s.getD k.toNat 0 ∧ s.getD k.toNat 0 ≤ 4096) (hc : cls (s.getD k.toNat 0) = 1) (hs : inInt (sum + s.getD k.toNat 0)) (hk : inInt (n1 + 1)) (h : Ends c0 0 (H4c a tot (L q) s m (sum + s.getD k.toNat 0) (k + 1) n0 (n1 + 1) n2 n3 n4) Q) : Ends c0 0 (H4c a tot (L q) s m sum k n0 n1 n2 n3 n4) Q :=
  Ends.cfg rfl (Ends.turn (c := (cK 1)) (cK_ok san 1) (h4c s) (atLoop 2) 300 [0] [0, 3, 5, 7, 8, 9, 10, 11] (ps := [decide (k < (↑(List.length (ints s)) : Int)) = true, (0 : Int) ≤ k ∧ k < (↑(List.length (ints s)) : Int), (ints s)[Int.toNat k]? = some (D.int IntKind.i64 (List.getD s (Int.toNat k) (0 : Int))), nat_lit 1 = nat_lit 1, decide (List.getD s (Int.toNat k) (0 : Int) < (1 : Int)) = false, decide (List.getD s (Int.toNat k) (0 : Int) < (1 : Int)) = false, decide (List.getD s (Int.toNat k) (0 : Int) < (1 : Int)) = false, (0 : Int) ≤ k ∧ k < (↑(List.length (ints s)) : Int), (ints s)[Int.toNat k]? = some (D.int IntKind.i64 (List.getD s (Int.toNat k) (0 : Int))), nat_lit 1 = nat_lit 1, decide (List.getD s (Int.toNat k) (0 : Int) < (1 : Int)) = false, decide (List.getD s (Int.toNat k) (0 : Int) < (1 : Int)) = false, decide (List.getD s (Int.toNat k) (0 : Int) < (1 : Int)) = false, decide (List.getD s (Int.toNat k) (0 : Int) > (4096 : Int)) = false, (0 : Int) ≤ k ∧ k < (↑(List.length (ints s)) : Int), (ints s)[Int.toNat k]? = some (D.int IntKind.i64 (List.getD s (Int.toNat k) (0 : Int))), nat_lit 1 = nat_lit 1, inInt (sum + List.getD s (Int.toNat k) (0 : Int)), (0 : Int) ≤ k ∧ k < (↑(List.length (ints s)) : Int), (ints s)[Int.toNat k]? = some (D.int IntKind.i64 (List.getD s (Int.toNat k) (0 : Int))), nat_lit 1 = nat_lit 1, List.getD s (Int.toNat k) (0 : Int) ≤ (4096 : Int), cls (List.getD s (Int.toNat k) (0 : Int)) = (1 : Int), inInt (n1 + (1 : Int)), inInt (k + (1 : Int))]) (by kernel_rfl) (by
    (try simp only [AllP, Int.toNat_natCast, ints_len, decide_eq_true_eq, decide_eq_false_iff_not, beq_eq_false_iff_ne, beq_iff_eq, bne_iff_ne, bne_eq_false_iff_eq, Bool.not_eq_true', Bool.not_eq_false', Int.not_lt, Int.not_le, gt_iff_lt, ge_iff_le, ne_eq, and_true, true_and, unI_ints, Nat.zero_add, List.length_cons, List.length_nil, Nat.sub_zero, Int.zero_add, List.nil_append, List.drop_zero, ints_all, Int.add_zero, Int.natCast_zero, Int.toNat_zero])
    all_goals (repeat' (first | with_reducible assumption | with_reducible rfl | omega | with_reducible exact ints_get (by omega) | with_reducible apply And.intro | unfold inInt | with_reducible exact isInts_ints _ | exact rfl | exact ints_ne (by assumption) | (simp; done)))) (Ends.cfg rfl h))
theorem law2_t2_some (san : San) {q : List Int} {a s : List Int} {tot m sum k n0 n1 n2 n3 n4 : Int} {Q : V → Aev.Rows → Prop} (h0 : 0 ≤ k) (h1 : k < (s.length : Int)) (hb : s.length ≤ 80) (hx : 1 ≤ s.getD k.toNat 0 ∧ s.getD k.toNat 0 ≤ 4096) (hc : cls (s.getD k.toNat 0) = 2) (hs : inInt (sum + s.getD k.toNat 0)) (hk : inInt (n2 + 1)) (h : Ends c0 0 (H4c a tot (L q) s m (sum + s.getD k.toNat 0) (k + 1) n0 n1 (n2 + 1) n3 n4) Q) : Ends c0 0 (H4c a tot (L q) s m sum k n0 n1 n2 n3 n4) Q :=
  Ends.cfg rfl (Ends.turn (c := (cK 2)) (cK_ok san 2) (h4c s) (atLoop 2) 300 [0] [0, 3, 5, 7, 8, 9, 10, 11] (ps := [decide (k < (↑(List.length (ints s)) : Int)) = true, (0 : Int) ≤ k ∧ k < (↑(List.length (ints s)) : Int), (ints s)[Int.toNat k]? = some (D.int IntKind.i64 (List.getD s (Int.toNat k) (0 : Int))), nat_lit 1 = nat_lit 1, decide (List.getD s (Int.toNat k) (0 : Int) < (1 : Int)) = false, decide (List.getD s (Int.toNat k) (0 : Int) < (1 : Int)) = false, decide (List.getD s (Int.toNat k) (0 : Int) < (1 : Int)) = false, (0 : Int) ≤ k ∧ k < (↑(List.length (ints s)) : Int), (ints s)[Int.toNat k]? = some (D.int IntKind.i64 (List.getD s (Int.toNat k) (0 : Int))), nat_lit 1 = nat_lit 1, decide (List.getD s (Int.toNat k) (0 : Int) < (1 : Int)) = false, decide (List.getD s (Int.toNat k) (0 : Int) < (1 : Int)) = false, decide (List.getD s (Int.toNat k) (0 : Int) < (1 : Int)) = false, decide (List.getD s (Int.toNat k) (0 : Int) > (4096 : Int)) = false, (0 : Int) ≤ k ∧ k < (↑(List.length (ints s)) : Int), (ints s)[Int.toNat k]? = some (D.int IntKind.i64 (List.getD s (Int.toNat k) (0 : Int))), nat_lit 1 = nat_lit 1, inInt (sum + List.getD s (Int.toNat k) (0 : Int)), (0 : Int) ≤ k ∧ k < (↑(List.length (ints s)) : Int), (ints s)[Int.toNat k]? = some (D.int IntKind.i64 (List.getD s (Int.toNat k) (0 : Int))), nat_lit 1 = nat_lit 1, List.getD s (Int.toNat k) (0 : Int) ≤ (4096 : Int), cls (List.getD s (Int.toNat k) (0 : Int)) = (2 : Int), inInt (n2 + (1 : Int)), inInt (k + (1 : Int))]) (by kernel_rfl) (by
    (try simp only [AllP, Int.toNat_natCast, ints_len, decide_eq_true_eq, decide_eq_false_iff_not, beq_eq_false_iff_ne, beq_iff_eq, bne_iff_ne, bne_eq_false_iff_eq, Bool.not_eq_true', Bool.not_eq_false', Int.not_lt, Int.not_le, gt_iff_lt, ge_iff_le, ne_eq, and_true, true_and, unI_ints, Nat.zero_add, List.length_cons, List.length_nil, Nat.sub_zero, Int.zero_add, List.nil_append, List.drop_zero, ints_all, Int.add_zero, Int.natCast_zero, Int.toNat_zero])
    all_goals (repeat' (first | with_reducible assumption | with_reducible rfl | omega | with_reducible exact ints_get (by omega) | with_reducible apply And.intro | unfold inInt | with_reducible exact isInts_ints _ | exact rfl | exact ints_ne (by assumption) | (simp; done)))) (Ends.cfg rfl h))
theorem law2_t3_some (san : San) {q : List Int} {a s : List Int} {tot m sum k n0 n1 n2 n3 n4 : Int} {Q : V → Aev.Rows → Prop} (h0 : 0 ≤ k) (h1 : k < (s.length : Int)) (hb : s.length ≤ 80) (hx : 1 ≤ s.getD k.toNat 0 ∧ s.getD k.toNat 0 ≤ 4096) (hc : cls (s.getD k.toNat 0) = 3) (hs : inInt (sum + s.getD k.toNat 0)) (hk : inInt (n3 + 1)) (h : Ends c0 0 (H4c a tot (L q) s m (sum + s.getD k.toNat 0) (k + 1) n0 n1 n2 (n3 + 1) n4) Q) : Ends c0 0 (H4c a tot (L q) s m sum k n0 n1 n2 n3 n4) Q :=
  Ends.cfg rfl (Ends.turn (c := (cK 3)) (cK_ok san 3) (h4c s) (atLoop 2) 300 [0] [0, 3, 5, 7, 8, 9, 10, 11] (ps := [decide (k < (↑(List.length (ints s)) : Int)) = true, (0 : Int) ≤ k ∧ k < (↑(List.length (ints s)) : Int), (ints s)[Int.toNat k]? = some (D.int IntKind.i64 (List.getD s (Int.toNat k) (0 : Int))), nat_lit 1 = nat_lit 1, decide (List.getD s (Int.toNat k) (0 : Int) < (1 : Int)) = false, decide (List.getD s (Int.toNat k) (0 : Int) < (1 : Int)) = false, decide (List.getD s (Int.toNat k) (0 : Int) < (1 : Int)) = false, (0 : Int) ≤ k ∧ k < (↑(List.length (ints s)) : Int), (ints s)[Int.toNat k]? = some (D.int IntKind.i64 (List.getD s (Int.toNat k) (0 : Int))), nat_lit 1 = nat_lit 1, decide (List.getD s (Int.toNat k) (0 : Int) < (1 : Int)) = false, decide (List.getD s (Int.toNat k) (0 : Int) < (1 : Int)) = false, decide (List.getD s (Int.toNat k) (0 : Int) < (1 : Int)) = false, decide (List.getD s (Int.toNat k) (0 : Int) > (4096 : Int)) = false, (0 : Int) ≤ k ∧ k < (↑(List.length (ints s)) : Int), (ints s)[Int.toNat k]? = some (D.int IntKind.i64 (List.getD s (Int.toNat k) (0 : Int))), nat_lit 1 = nat_lit 1, inInt (sum + List.getD s (Int.toNat k) (0 : Int)), (0 : Int) ≤ k ∧ k < (↑(List.length (ints s)) : Int), (ints s)[Int.toNat k]? = some (D.int IntKind.i64 (List.getD s (Int.toNat k) (0 : Int))), nat_lit 1 = nat_lit 1, List.getD s (Int.toNat k) (0 : Int) ≤ (4096 : Int), cls (List.getD s (Int.toNat k) (0 : Int)) = (3 : Int), inInt (n3 + (1 : Int)), inInt (k + (1 : Int))]) (by kernel_rfl) (by
    (try simp only [AllP, Int.toNat_natCast, ints_len, decide_eq_true_eq, decide_eq_false_iff_not, beq_eq_false_iff_ne, beq_iff_eq, bne_iff_ne, bne_eq_false_iff_eq, Bool.not_eq_true', Bool.not_eq_false', Int.not_lt, Int.not_le, gt_iff_lt, ge_iff_le, ne_eq, and_true, true_and, unI_ints, Nat.zero_add, List.length_cons, List.length_nil, Nat.sub_zero, Int.zero_add, List.nil_append, List.drop_zero, ints_all, Int.add_zero, Int.natCast_zero, Int.toNat_zero])
    all_goals (repeat' (first | with_reducible assumption | with_reducible rfl | omega | with_reducible exact ints_get (by omega) | with_reducible apply And.intro | unfold inInt | with_reducible exact isInts_ints _ | exact rfl | exact ints_ne (by assumption) | (simp; done)))) (Ends.cfg rfl h))
theorem law2_t4_some (san : San) {q : List Int} {a s : List Int} {tot m sum k n0 n1 n2 n3 n4 : Int} {Q : V → Aev.Rows → Prop} (h0 : 0 ≤ k) (h1 : k < (s.length : Int)) (hb : s.length ≤ 80) (hx : 1 ≤ s.getD k.toNat 0 ∧ s.getD k.toNat 0 ≤ 4096) (hc : cls (s.getD k.toNat 0) = 4) (hs : inInt (sum + s.getD k.toNat 0)) (hk : inInt (n4 + 1)) (h : Ends c0 0 (H4c a tot (L q) s m (sum + s.getD k.toNat 0) (k + 1) n0 n1 n2 n3 (n4 + 1)) Q) : Ends c0 0 (H4c a tot (L q) s m sum k n0 n1 n2 n3 n4) Q :=
  Ends.cfg rfl (Ends.turn (c := (cK 4)) (cK_ok san 4) (h4c s) (atLoop 2) 300 [0] [0, 3, 5, 7, 8, 9, 10, 11] (ps := [decide (k < (↑(List.length (ints s)) : Int)) = true, (0 : Int) ≤ k ∧ k < (↑(List.length (ints s)) : Int), (ints s)[Int.toNat k]? = some (D.int IntKind.i64 (List.getD s (Int.toNat k) (0 : Int))), nat_lit 1 = nat_lit 1, decide (List.getD s (Int.toNat k) (0 : Int) < (1 : Int)) = false, decide (List.getD s (Int.toNat k) (0 : Int) < (1 : Int)) = false, decide (List.getD s (Int.toNat k) (0 : Int) < (1 : Int)) = false, (0 : Int) ≤ k ∧ k < (↑(List.length (ints s)) : Int), (ints s)[Int.toNat k]? = some (D.int IntKind.i64 (List.getD s (Int.toNat k) (0 : Int))), nat_lit 1 = nat_lit 1, decide (List.getD s (Int.toNat k) (0 : Int) < (1 : Int)) = false, decide (List.getD s (Int.toNat k) (0 : Int) < (1 : Int)) = false, decide (List.getD s (Int.toNat k) (0 : Int) < (1 : Int)) = false, decide (List.getD s (Int.toNat k) (0 : Int) > (4096 : Int)) = false, (0 : Int) ≤ k ∧ k < (↑(List.length (ints s)) : Int), (ints s)[Int.toNat k]? = some (D.int IntKind.i64 (List.getD s (Int.toNat k) (0 : Int))), nat_lit 1 = nat_lit 1, inInt (sum + List.getD s (Int.toNat k) (0 : Int)), (0 : Int) ≤ k ∧ k < (↑(List.length (ints s)) : Int), (ints s)[Int.toNat k]? = some (D.int IntKind.i64 (List.getD s (Int.toNat k) (0 : Int))), nat_lit 1 = nat_lit 1, List.getD s (Int.toNat k) (0 : Int) ≤ (4096 : Int), cls (List.getD s (Int.toNat k) (0 : Int)) = (4 : Int), inInt (n4 + (1 : Int)), inInt (k + (1 : Int))]) (by kernel_rfl) (by
    (try simp only [AllP, Int.toNat_natCast, ints_len, decide_eq_true_eq, decide_eq_false_iff_not, beq_eq_false_iff_ne, beq_iff_eq, bne_iff_ne, bne_eq_false_iff_eq, Bool.not_eq_true', Bool.not_eq_false', Int.not_lt, Int.not_le, gt_iff_lt, ge_iff_le, ne_eq, and_true, true_and, unI_ints, Nat.zero_add, List.length_cons, List.length_nil, Nat.sub_zero, Int.zero_add, List.nil_append, List.drop_zero, ints_all, Int.add_zero, Int.natCast_zero, Int.toNat_zero])
    all_goals (repeat' (first | with_reducible assumption | with_reducible rfl | omega | with_reducible exact ints_get (by omega) | with_reducible apply And.intro | unfold inInt | with_reducible exact isInts_ints _ | exact rfl | exact ints_ne (by assumption) | (simp; done)))) (Ends.cfg rfl h))
theorem law2_end_some (san : San) {q : List Int} {a s : List Int} {tot m sum k n0 n1 n2 n3 n4 : Int} {Q : V → Aev.Rows → Prop} (h1 : (s.length : Int) ≤ k) (hb : s.length ≤ 80) (hs : ∀ x ∈ s, 1 ≤ x ∧ x ≤ 4096) (hr : vOf (refPick s) = .nil) (k0 : n0 < 4) (k1 : n1 < 4) (k2 : n2 < 4) (k3 : n3 < 4) (he : sum = tot) (hd : IntKind.wrap .i64 (tot.tdiv 1025) = tot / 1025) (hi : inInt (12 + tot / 1025)) (hl : (s.length : Int) ≤ 12 + tot / 1025) (hm : 0 ≤ m) (h : ∀ rows, Q (.d (.bool ((m == 0) == (((ints q).length : Int) == 0)))) rows) : Ends c0 0 (H4c a tot (L q) s m sum k n0 n1 n2 n3 n4) Q :=
  Ends.cfg rfl (Ends.finR (c := (cL .nil [] 0)) (cL_ok san _ _ _) (gds [(108,false),(152,false),(159,true),(165,true),(173,true),(177,true)]) 300 (ps := [decide (k < (↑(List.length (ints s)) : Int)) = false, decide (n0 ≥ (4 : Int)) = false, inInt (1 : Int), decide (n1 ≥ (4 : Int)) = false, inInt (2 : Int), decide (n2 ≥ (4 : Int)) = false, inInt (3 : Int), decide (n3 ≥ (4 : Int)) = false, inInt (4 : Int), (sum == tot) = true, (sum == tot) = true, isInts (ints s), List.length (ints s) ≤ nat_lit 1073741824, ∀ (x : Int), x ∈ List.map unI (ints s) → (1 : Int) ≤ x ∧ x ≤ (4096 : Int), vOf (refPick (List.map unI (ints s))) = V.nil, (sum == tot) = true, (sum == tot) = true, (sum == tot) = true, true = true, true = true, true = true, true = true, true = true, inInt ((12 : Int) + IntKind.wrap IntKind.i64 (Int.tdiv tot (1025 : Int))), true = true, true = true, decide ((↑(List.length (ints s)) : Int) ≤ (12 : Int) + IntKind.wrap IntKind.i64 (Int.tdiv tot (1025 : Int))) = true, decide ((↑(List.length (ints s)) : Int) ≤ (12 : Int) + IntKind.wrap IntKind.i64 (Int.tdiv tot (1025 : Int))) = true, decide ((↑(List.length (ints s)) : Int) ≤ (12 : Int) + IntKind.wrap IntKind.i64 (Int.tdiv tot (1025 : Int))) = true, decide (m ≥ (0 : Int)) = true, decide (m ≥ (0 : Int)) = true, decide (m ≥ (0 : Int)) = true, decide (m ≥ (0 : Int)) = true, decide (m ≥ (0 : Int)) = true, decide (m ≥ (0 : Int)) = true, decide (m ≥ (0 : Int)) = true]) (v := .d (.bool ((m == 0) == (((ints q).length : Int) == 0)))) (by kernel_rfl) (by
    (try simp only [AllP, Int.toNat_natCast, ints_len, decide_eq_true_eq, decide_eq_false_iff_not, beq_eq_false_iff_ne, beq_iff_eq, bne_iff_ne, bne_eq_false_iff_eq, Bool.not_eq_true', Bool.not_eq_false', Int.not_lt, Int.not_le, gt_iff_lt, ge_iff_le, ne_eq, and_true, true_and, unI_ints, Nat.zero_add, List.length_cons, List.length_nil, Nat.sub_zero, Int.zero_add, List.nil_append, List.drop_zero, ints_all, Int.add_zero, Int.natCast_zero, Int.toNat_zero, hd])
    all_goals (repeat' (first | with_reducible assumption | with_reducible rfl | omega | with_reducible exact ints_get (by omega) | with_reducible apply And.intro | unfold inInt | with_reducible exact isInts_ints _ | exact rfl | exact ints_ne (by assumption) | (simp; done)))) h)
end Go.Aev.M33
end
/- M33Empty2Defs -/
section
namespace Go.Aev.M33
set_option maxRecDepth 1000000
noncomputable def sE2 : AS := nextOf (sTo cE (gds [] [] 3) atNil 300 (start cE 4 [L []] []))
noncomputable def sE2b (b : Bool) : AS := (anyNil cE.cfg sE2 b).getD sE2
end Go.Aev.M33
end
/- M33Empty2 -/
section
namespace Go.Aev.M33
set_option maxRecDepth 1000000
set_option linter.unusedSimpArgs false
set_option linter.unusedVariables false
theorem empty2_to (san : San) {Q : V → Aev.Rows → Prop} (h : ∀ b, Ends c0 0 (sE2b b) Q) : Ends c0 0 (start cE 4 [L []] []) Q :=
  Ends.cfg rfl (Ends.to (c := cE) (cE_ok san) (gds [] [] 3) atNil 300 (s' := sE2) (ps := [isInts [], nat_lit 0 ≤ nat_lit 4611686018427387904, isInts [], nat_lit 0 ≤ nat_lit 1073741824, ∀ (x : Int), x ∈ [] → (1 : Int) ≤ x ∧ x ≤ (4096 : Int), vOf [] = V.nil]) (by kernel_rfl) (by
    (try simp only [AllP, Int.toNat_natCast, ints_len, decide_eq_true_eq, decide_eq_false_iff_not, beq_eq_false_iff_ne, beq_iff_eq, bne_iff_ne, bne_eq_false_iff_eq, Bool.not_eq_true', Bool.not_eq_false', Int.not_lt, Int.not_le, gt_iff_lt, ge_iff_le, ne_eq, and_true, true_and, unI_ints, Nat.zero_add, List.length_cons, List.length_nil, Nat.sub_zero, Int.zero_add, List.map_nil])
    all_goals (repeat' (first | with_reducible assumption | with_reducible rfl | omega | with_reducible exact ints_get (by omega) | with_reducible apply And.intro | unfold inInt | exact rfl | exact isInts_nil | exact refPick_nil | (intro x hx; exact absurd hx (by simp)) | decide)))
    (Ends.anyNil (cE_ok san) fun b => ⟨sE2b b, by cases b <;> kernel_rfl, Ends.cfg rfl (h b)⟩))
theorem empty2_true (san : San) {Q : V → Aev.Rows → Prop} (h : ∀ rows, Q (B true) rows) : Ends c0 0 (sE2b true) Q :=
  Ends.cfg rfl (Ends.finR (c := cE) (cE_ok san) (gds [] [] 3) 300 (ps := [isInts [], nat_lit 0 ≤ nat_lit 1073741824, ∀ (x : Int), x ∈ [] → (1 : Int) ≤ x ∧ x ≤ (4096 : Int), vOf [] = V.nil, inInt (1 : Int), inInt (2 : Int), inInt (3 : Int), inInt (4 : Int), isInts [], nat_lit 0 ≤ nat_lit 1073741824, ∀ (x : Int), x ∈ [] → (1 : Int) ≤ x ∧ x ≤ (4096 : Int), vOf [] = V.nil, inInt (12 : Int)]) (v := B true) (by kernel_rfl) (by
    (try simp only [AllP, Int.toNat_natCast, ints_len, decide_eq_true_eq, decide_eq_false_iff_not, beq_eq_false_iff_ne, beq_iff_eq, bne_iff_ne, bne_eq_false_iff_eq, Bool.not_eq_true', Bool.not_eq_false', Int.not_lt, Int.not_le, gt_iff_lt, ge_iff_le, ne_eq, and_true, true_and, unI_ints, Nat.zero_add, List.length_cons, List.length_nil, Nat.sub_zero, Int.zero_add, List.map_nil])
    all_goals (repeat' (first | with_reducible assumption | with_reducible rfl | omega | with_reducible exact ints_get (by omega) | with_reducible apply And.intro | unfold inInt | exact rfl | exact isInts_nil | exact refPick_nil | (intro x hx; exact absurd hx (by simp)) | decide))) h)
theorem empty2_false (san : San) {Q : V → Aev.Rows → Prop} (h : ∀ rows, Q (B true) rows) : Ends c0 0 (sE2b false) Q :=
  Ends.cfg rfl (Ends.finR (c := cE) (cE_ok san) (gds [] [] 3) 300 (ps := [true = true, nat_lit 0 < nat_lit 1 ∧ nat_lit 0 = nat_lit 0, nat_lit 1 = nat_lit 1 ∧ nat_lit 0 ≤ nat_lit 0, isInts [], nat_lit 0 ≤ nat_lit 1073741824, ∀ (x : Int), x ∈ [] → (1 : Int) ≤ x ∧ x ≤ (4096 : Int), vOf [] = V.nil, inInt (1 : Int), inInt (2 : Int), inInt (3 : Int), inInt (4 : Int), nat_lit 1 = nat_lit 1 ∧ nat_lit 0 ≤ nat_lit 0, isInts [], nat_lit 0 ≤ nat_lit 1073741824, ∀ (x : Int), x ∈ [] → (1 : Int) ≤ x ∧ x ≤ (4096 : Int), vOf [] = V.nil, inInt (12 : Int)]) (v := B true) (by kernel_rfl) (by
    (try simp only [AllP, Int.toNat_natCast, ints_len, decide_eq_true_eq, decide_eq_false_iff_not, beq_eq_false_iff_ne, beq_iff_eq, bne_iff_ne, bne_eq_false_iff_eq, Bool.not_eq_true', Bool.not_eq_false', Int.not_lt, Int.not_le, gt_iff_lt, ge_iff_le, ne_eq, and_true, true_and, unI_ints, Nat.zero_add, List.length_cons, List.length_nil, Nat.sub_zero, Int.zero_add, List.map_nil])
    all_goals (repeat' (first | with_reducible assumption | with_reducible rfl | omega | with_reducible exact ints_get (by omega) | with_reducible apply And.intro | unfold inInt | exact rfl | exact isInts_nil | exact refPick_nil | (intro x hx; exact absurd hx (by simp)) | decide))) h)
/-- law 2 over no counts -/
theorem law2_empty (san : San) : RCs PP 4 [L []] [] (B true) := by
  refine rcs_of (c := cE) (cE_ok san) (by kernel_rfl) (Ends.cfg rfl (c := c0) ?_)
  refine empty2_to san fun b => ?_
  cases b
  · exact empty2_false san fun rows => rfl
  · exact empty2_true san fun rows => rfl
end Go.Aev.M33
end
/- M33Law2 -/
section
namespace Go.Aev.M33
open List
set_option maxRecDepth 1000000
set_option linter.unusedVariables false
abbrev QT : V → Aev.Rows → Prop := fun v rows => convV (liveAt rows) v = some (B true)
theorem sum_bd : ∀ {a : List Int}, (∀ x ∈ a, 1 ≤ x ∧ x ≤ 4096) → 0 ≤ a.sum ∧ a.sum ≤ 4096 * a.length
  | [], _ => by simp
  | x :: a, h => by
    have ih := sum_bd (a := a) fun y hy => h y (List.mem_cons_of_mem _ hy)
    have h1 := h x (by simp)
    rw [List.sum_cons, List.length_cons]
    omega
theorem take_bd {a : List Int} (h : ∀ x ∈ a, 1 ≤ x ∧ x ≤ 4096) (k : Nat) (hb : a.length ≤ 80) : 0 ≤ (a.take k).sum ∧ (a.take k).sum ≤ 4096 * 80 := by
  have := sum_bd (a := a.take k) fun x hx => h x (List.mem_of_mem_take hx)
  have hl : (a.take k).length ≤ 80 := by rw [List.length_take]; omega
  omega
/-- the loop that sums -/
theorem law2_sums (san : San) {a : List Int} (hb : a.length ≤ 80) (ha : ∀ x ∈ a, 1 ≤ x ∧ x ≤ 4096) (h : Ends c0 0 (H4a a a.sum a.length) QT) : ∀ (n k : Nat), k + n = a.length → Ends c0 0 (H4a a (a.take k).sum (k : Int)) QT := by
  intro n
  induction n with
  | zero =>
    intro k hk
    have e : a.take k = a := List.take_of_length_le (by omega)
    rw [e, show k = a.length by omega]; exact h
  | succ n ih =>
    intro k hk
    have h2 := ih (k + 1) (by omega)
    have e : ((k + 1 : Nat) : Int) = (k : Int) + 1 := by omega
    have hs := take_sum (a := a) (k := k) (by omega)
    have hbd := take_bd ha (k + 1) hb
    rw [hs] at h2 hbd
    rw [e] at h2
    refine law2_sum san (by omega) (by omega) hb (by rw [Int.toNat_natCast]; unfold inInt; omega) ?_
    rw [Int.toNat_natCast]
    exact h2
theorem cnt_take {s : List Int} {k : Nat} (h : k < s.length) (j : Int) : (cnt (s.take (k + 1)) j : Int) = cnt (s.take k) j + (if cls (s.getD k 0) = j then 1 else 0) := by
  have hg : s.getD k 0 = s[k] := by simp [h]
  rw [List.take_succ_eq_append_getElem h, hg]
  unfold cnt
  rw [List.countP_append]
  by_cases hc : cls s[k] = j <;> simp [hc]
theorem cnt_bd (s : List Int) (j : Int) (hb : s.length ≤ 80) (k : Nat) : (cnt (s.take k) j : Int) ≤ 80 := by
  have : cnt (s.take k) j ≤ (s.take k).length := List.countP_le_length
  rw [List.length_take] at this
  omega
/-- at the loop over what Settle left -/
noncomputable abbrev H4k (a : List Int) (tot : Int) (p : V) (s : List Int) (m : Int) (k : Nat) : AS := H4c a tot p s m (s.take k).sum (k : Int) (cnt (s.take k) 0) (cnt (s.take k) 1) (cnt (s.take k) 2) (cnt (s.take k) 3) (cnt (s.take k) 4)
theorem law2_left (san : San) {a : List Int} {tot : Int} {p : V} {s : List Int} {m : Int} (hb : s.length ≤ 80) (hs : ∀ x ∈ s, 1 ≤ x ∧ x ≤ 4096) (hp : p = .nil ∨ ∃ q, p = L q) (h : Ends c0 0 (H4k a tot p s m s.length) QT) : ∀ (n k : Nat), k + n = s.length → Ends c0 0 (H4k a tot p s m k) QT := by
  intro n
  induction n with
  | zero => intro k hk; rw [show k = s.length by omega]; exact h
  | succ n ih =>
    intro k hk
    have h2 := ih (k + 1) (by omega)
    have e : ((k + 1 : Nat) : Int) = (k : Int) + 1 := by omega
    have hsm := take_sum (a := s) (k := k) (by omega)
    have hbd := take_bd hs (k + 1) hb
    have hx := ha_get hs (k := k) (by omega)
    have hr := cls_range (s.getD k 0)
    have n0 := cnt_take (s := s) (k := k) (by omega) 0
    have n1 := cnt_take (s := s) (k := k) (by omega) 1
    have n2 := cnt_take (s := s) (k := k) (by omega) 2
    have n3 := cnt_take (s := s) (k := k) (by omega) 3
    have n4 := cnt_take (s := s) (k := k) (by omega) 4
    have b0 := cnt_bd s 0 hb k
    have b1 := cnt_bd s 1 hb k
    have b2 := cnt_bd s 2 hb k
    have b3 := cnt_bd s 3 hb k
    have b4 := cnt_bd s 4 hb k
    unfold H4k at h2
    rw [hsm] at h2 hbd
    rw [e, n0, n1, n2, n3, n4] at h2
    have tn : (k : Int).toNat = k := Int.toNat_natCast k
    rcases (by omega : cls (s.getD k 0) = 0 ∨ cls (s.getD k 0) = 1 ∨ cls (s.getD k 0) = 2 ∨ cls (s.getD k 0) = 3 ∨ cls (s.getD k 0) = 4) with hc | hc | hc | hc | hc
    all_goals
      rw [hc] at h2
      simp only [if_pos, Int.add_zero, reduceIte, show ¬ ((0 : Int) = 1) by decide, show ¬ ((0 : Int) = 2) by decide, show ¬ ((0 : Int) = 3) by decide, show ¬ ((0 : Int) = 4) by decide, show ¬ ((1 : Int) = 0) by decide, show ¬ ((1 : Int) = 2) by decide, show ¬ ((1 : Int) = 3) by decide, show ¬ ((1 : Int) = 4) by decide, show ¬ ((2 : Int) = 0) by decide, show ¬ ((2 : Int) = 1) by decide, show ¬ ((2 : Int) = 3) by decide, show ¬ ((2 : Int) = 4) by decide, show ¬ ((3 : Int) = 0) by decide, show ¬ ((3 : Int) = 1) by decide, show ¬ ((3 : Int) = 2) by decide, show ¬ ((3 : Int) = 4) by decide, show ¬ ((4 : Int) = 0) by decide, show ¬ ((4 : Int) = 1) by decide, show ¬ ((4 : Int) = 2) by decide, show ¬ ((4 : Int) = 3) by decide] at h2
    · rcases hp with rfl | ⟨q, rfl⟩
      · refine law2_t0_nil san (by omega) (by omega) hb (by rw [tn]; exact hx) (by rw [tn]; exact hc) (by rw [tn]; unfold inInt; omega) (by unfold inInt; omega) ?_
        rw [tn]; exact h2
      · refine law2_t0_some san (by omega) (by omega) hb (by rw [tn]; exact hx) (by rw [tn]; exact hc) (by rw [tn]; unfold inInt; omega) (by unfold inInt; omega) ?_
        rw [tn]; exact h2
    · rcases hp with rfl | ⟨q, rfl⟩
      · refine law2_t1_nil san (by omega) (by omega) hb (by rw [tn]; exact hx) (by rw [tn]; exact hc) (by rw [tn]; unfold inInt; omega) (by unfold inInt; omega) ?_
        rw [tn]; exact h2
      · refine law2_t1_some san (by omega) (by omega) hb (by rw [tn]; exact hx) (by rw [tn]; exact hc) (by rw [tn]; unfold inInt; omega) (by unfold inInt; omega) ?_
        rw [tn]; exact h2
    · rcases hp with rfl | ⟨q, rfl⟩
      · refine law2_t2_nil san (by omega) (by omega) hb (by rw [tn]; exact hx) (by rw [tn]; exact hc) (by rw [tn]; unfold inInt; omega) (by unfold inInt; omega) ?_
        rw [tn]; exact h2
      · refine law2_t2_some san (by omega) (by omega) hb (by rw [tn]; exact hx) (by rw [tn]; exact hc) (by rw [tn]; unfold inInt; omega) (by unfold inInt; omega) ?_
        rw [tn]; exact h2
    · rcases hp with rfl | ⟨q, rfl⟩
      · refine law2_t3_nil san (by omega) (by omega) hb (by rw [tn]; exact hx) (by rw [tn]; exact hc) (by rw [tn]; unfold inInt; omega) (by unfold inInt; omega) ?_
        rw [tn]; exact h2
      · refine law2_t3_some san (by omega) (by omega) hb (by rw [tn]; exact hx) (by rw [tn]; exact hc) (by rw [tn]; unfold inInt; omega) (by unfold inInt; omega) ?_
        rw [tn]; exact h2
    · rcases hp with rfl | ⟨q, rfl⟩
      · refine law2_t4_nil san (by omega) (by omega) hb (by rw [tn]; exact hx) (by rw [tn]; exact hc) (by rw [tn]; unfold inInt; omega) (by unfold inInt; omega) ?_
        rw [tn]; exact h2
      · refine law2_t4_some san (by omega) (by omega) hb (by rw [tn]; exact hx) (by rw [tn]; exact hc) (by rw [tn]; unfold inInt; omega) (by unfold inInt; omega) ?_
        rw [tn]; exact h2
/-- behind it -/
theorem law2_fin (san : San) {a : List Int} (hb : a.length ≤ 80) (ha : ∀ x ∈ a, 1 ≤ x ∧ x ≤ 4096) {p : V} (hp : (p = .nil ∧ refPick a = []) ∨ ∃ q, p = L q ∧ q = refPick a ∧ q ≠ []) : Ends c0 0 (H4k a a.sum p (settle a).1 (settle a).2 0) QT := by
  have hl : (settle a).1.length ≤ 80 := by
    have : (settle a).1.length ≤ a.length := settleN_len a.length a 0 ha
    omega
  have hs : ∀ x ∈ (settle a).1, 1 ≤ x ∧ x ≤ 4096 := settleN_ok _ _ _ ha
  have hp0 : refPick (settle a).1 = [] := settleN_enough a.length a 0 ha (Nat.le_refl _)
  have hsum : (settle a).1.sum = a.sum := settleN_sum _ _ _
  obtain ⟨m0, m1⟩ := settle_moved ha
  have c0 := cnt_few hp0 (j := 0) (by omega)
  have c1 := cnt_few hp0 (j := 1) (by omega)
  have c2 := cnt_few hp0 (j := 2) (by omega)
  have c3 := cnt_few hp0 (j := 3) (by omega)
  have e0 : cnt (settle a).1 ((0 : Nat) : Int) = cnt (settle a).1 0 := rfl
  have e1 : cnt (settle a).1 ((1 : Nat) : Int) = cnt (settle a).1 1 := rfl
  have e2 : cnt (settle a).1 ((2 : Nat) : Int) = cnt (settle a).1 2 := rfl
  have e3 : cnt (settle a).1 ((3 : Nat) : Int) = cnt (settle a).1 3 := rfl
  have hlen := len_few hp0 (fun x hx => (hs x hx).1)
  rw [hsum] at hlen
  have hbd := sum_bd ha
  have hq : IntKind.wrap .i64 (a.sum.tdiv 1025) = a.sum / 1025 := by
    rw [Int.tdiv_eq_ediv_of_nonneg hbd.1]
    exact wrap_in (by unfold inInt; omega)
  refine law2_left san hl hs (hp.elim (fun h => .inl h.1) fun ⟨q, h, _⟩ => .inr ⟨q, h⟩) ?_ (settle a).1.length 0 (by omega)
  unfold H4k
  rw [List.take_length]
  rcases hp with ⟨rfl, hpn⟩ | ⟨q, rfl, hqq, hqn⟩
  · refine law2_end_nil san (Int.le_refl _) hl hs (by rw [hp0]; rfl) (by omega) (by omega) (by omega) (by omega) hsum hq (by unfold inInt; omega) hlen m0 fun rows => ?_
    rw [m1.2 hpn]; rfl
  · refine law2_end_some san (Int.le_refl _) hl hs (by rw [hp0]; rfl) (by omega) (by omega) (by omega) (by omega) hsum hq (by unfold inInt; omega) hlen m0 fun rows => ?_
    have h1 : ¬ (settle a).2 = 0 := fun e => hqn (by rw [hqq]; exact m1.1 e)
    have h2 : ((settle a).2 == 0) = false := by simpa using h1
    have h3 : (((ints q).length : Int) == 0) = false := by
      have : (ints q).length = 4 := by rw [ints_len, hqq]; exact (refPick_spec (by rw [← hqq]; exact hqn)).1
      rw [this]; rfl
    rw [h2, h3]; rfl
/-- MergeLeavesFew, over a list of numbers -/
theorem law2_rcs (san : San) {a : List Int} (hb : a.length ≤ 4611686018427387904) : RCs PP 4 [L a] [] (B true) := by
  by_cases hne : a = []
  · subst hne; exact law2_empty san
  · refine rcs_of (c := cL .nil [] 0) (cL_ok san _ _ _) (by kernel_rfl) (Ends.cfg rfl (c := c0) ?_)
    cases hok : okC a with
    | false => exact law2_bad san hok hb fun rows => rfl
    | true =>
      obtain ⟨ha, hl⟩ := okC_spec hok
      have hs : Settled a (settle a).1 (settle a).2 := rfl
      refine law2_go san hok hb (law2_sums san hl ha ?_ a.length 0 (by omega))
      by_cases hp : refPick a = []
      · refine law2_b_nil san (Int.le_refl _) hl ha (by rw [hp]; rfl) (law2_c_nil san hne hl ha hs ?_)
        exact law2_fin san hl ha (.inl ⟨rfl, hp⟩)
      · obtain ⟨p1, p2, p3, p4⟩ := refPick_spec hp
        obtain ⟨j, hj⟩ := refPick_cls hp
        have hasc := refPick_asc a
        refine law2_b_some (q := refPick a) san (Int.le_refl _) hl ha (by rw [vOf, if_neg hp]) ?_
        have hq : ∀ k : Nat, k < (refPick a).length → 0 ≤ (refPick a).getD k 0 ∧ (refPick a).getD k 0 < (a.length : Int) ∧ cls (a.getD ((refPick a).getD k 0).toNat 0) = j := fun k hk => by
          have hg : (refPick a).getD k 0 = (refPick a)[k] := by simp [hk]
          rw [hg]
          have hm : (refPick a)[k] ∈ refPick a := List.getElem_mem _
          exact ⟨(p3 _ hm).1, (p3 _ hm).2, hj _ hm⟩
        have hx : ∀ k : Nat, k < (refPick a).length → a.getD ((refPick a).getD k 0).toNat 0 ≤ 4096 := fun k hk => by
          obtain ⟨h1, h2, _⟩ := hq k hk
          exact (ha_get ha (by omega)).2
        have hlt : ∀ k : Nat, k + 1 < (refPick a).length → (refPick a).getD k 0 < (refPick a).getD (k + 1) 0 := fun k hk => by
          have g1 : (refPick a).getD k 0 = (refPick a)[k] := by simp [show k < (refPick a).length by omega]
          have g2 : (refPick a).getD (k + 1) 0 = (refPick a)[k + 1] := by simp [hk]
          rw [g1, g2]
          exact List.pairwise_iff_getElem.1 hasc k (k + 1) (by omega) hk (by omega)
        have last : Ends c0 0 (H4b a a.sum (L (refPick a)) 4) QT := law2_c_some san hne hl ha hs (by omega) p1 p3 (fun x hx => ⟨by have := ha x hx; omega, (ha x hx).2⟩) p4 (by omega) (by omega) (law2_fin san hl ha (.inr ⟨_, rfl, rfl, hp⟩))
        have hq' : ∀ k : Nat, k < (refPick a).length → 0 ≤ (refPick a).getD k 0 ∧ (refPick a).getD k 0 < (a.length : Int) := fun k hk => ⟨(hq k hk).1, (hq k hk).2.1⟩
        have one : ∀ k : Nat, 0 < k → k < 4 → Ends c0 0 (H4b a a.sum (L (refPick a)) ((k : Int) + 1)) QT → Ends c0 0 (H4b a a.sum (L (refPick a)) (k : Int)) QT := fun k h0 h4 h => by
          have tk : (k : Int).toNat = k := Int.toNat_natCast k
          have tk1 : ((k : Int) - 1).toNat = k - 1 := by omega
          refine law2_p1 san (by omega) (by omega) (by omega) hl hq' (by rw [tk]; exact hq' k (by omega)) (hq' 0 (by omega)) (by rw [tk]; exact hx k (by omega)) (hx 0 (by omega)) (by rw [tk, (hq k (by omega)).2.2, (hq 0 (by omega)).2.2]) (by omega) ?_ h
          rw [tk, tk1]
          have := hlt (k - 1) (by omega)
          rw [show k - 1 + 1 = k by omega] at this
          exact this
        refine law2_p0 san (Int.le_refl _) (by omega) (by omega) hl hq' (hq' 0 (by omega)) (hq' 0 (by omega)) (hx 0 (by omega)) (hx 0 (by omega)) rfl (Int.le_refl _) ?_
        exact one 1 (by omega) (by omega) (one 2 (by omega) (by omega) (one 3 (by omega) (by omega) last))
end Go.Aev.M33
end
