/- Lemmas for the statements of this seat: an abstract machine that the model follows, and contracts of functions. Conditions: none. -/
import Derived.Test.YtjchifhnckdnaaaGreatDoorAevFastS
set_option linter.unusedVariables false
set_option linter.unusedSimpArgs false
set_option linter.unusedSectionVars false
namespace Go.Aev
variable [Glob]
theorem wrap_small (k:IntKind) (m:Nat) (h:m ≤ kmax k):k.wrap (.ofNat m) = .ofNat m:=by
 cases k <;> simp only [kmax] at h <;> simp [IntKind.wrap,IntKind.bits,IntKind.signed] <;> omega
theorem bits_and (k:IntKind) (m n:Nat) (h:m ≤ kmax k) (h':n ≤ kmax k):k.wrap (BitVec.ofInt k.bits (.ofNat m) &&& BitVec.ofInt k.bits (.ofNat n)).toNat = .ofNat (Nat.land m n):=by
 have hm:m < 2 ^ k.bits:=by cases k <;> simp only [kmax] at h <;> simp [IntKind.bits] <;> omega
 have hn:n < 2 ^ k.bits:=by cases k <;> simp only [kmax] at h' <;> simp [IntKind.bits] <;> omega
 have e:(BitVec.ofInt k.bits (.ofNat m) &&& BitVec.ofInt k.bits (.ofNat n)).toNat = m &&& n:=by
  rw [BitVec.toNat_and]
  simp [BitVec.ofInt_natCast,Nat.mod_eq_of_lt hm,Nat.mod_eq_of_lt hn]
 rw [e]
 exact wrap_small k _ (Nat.le_trans Nat.and_le_left h)
theorem kmax_pow (k:IntKind):∃ b,kmax k = 2 ^ b - 1∧b ≤ k.bits:=by
 cases k
 ·exact ⟨7,rfl,by decide⟩
 ·exact ⟨15,rfl,by decide⟩
 ·exact ⟨31,rfl,by decide⟩
 ·exact ⟨63,rfl,by decide⟩
 ·exact ⟨8,rfl,by decide⟩
 ·exact ⟨16,rfl,by decide⟩
 ·exact ⟨32,rfl,by decide⟩
 ·exact ⟨64,rfl,by decide⟩
theorem bits_or (k:IntKind) (m n:Nat) (h:m ≤ kmax k) (h':n ≤ kmax k):k.wrap (BitVec.ofInt k.bits (.ofNat m) ||| BitVec.ofInt k.bits (.ofNat n)).toNat = .ofNat (Nat.lor m n):=by
 have hm:m < 2 ^ k.bits:=by cases k <;> simp only [kmax] at h <;> simp [IntKind.bits] <;> omega
 have hn:n < 2 ^ k.bits:=by cases k <;> simp only [kmax] at h' <;> simp [IntKind.bits] <;> omega
 have e:(BitVec.ofInt k.bits (.ofNat m) ||| BitVec.ofInt k.bits (.ofNat n)).toNat = m ||| n:=by
  rw [BitVec.toNat_or]
  simp [BitVec.ofInt_natCast,Nat.mod_eq_of_lt hm,Nat.mod_eq_of_lt hn]
 rw [e]
 obtain ⟨b,hb,_⟩:=kmax_pow k
 have hp:0 < 2 ^ b:=Nat.two_pow_pos b
 have:=Nat.or_lt_two_pow (x:=m) (y:=n) (n:=b) (by omega) (by omega)
 exact wrap_small k _ (by omega)
theorem bits_xor (k:IntKind) (m n:Nat) (h:m ≤ kmax k) (h':n ≤ kmax k):k.wrap (BitVec.ofInt k.bits (.ofNat m) ^^^ BitVec.ofInt k.bits (.ofNat n)).toNat = .ofNat (Nat.xor m n):=by
 have hm:m < 2 ^ k.bits:=by cases k <;> simp only [kmax] at h <;> simp [IntKind.bits] <;> omega
 have hn:n < 2 ^ k.bits:=by cases k <;> simp only [kmax] at h' <;> simp [IntKind.bits] <;> omega
 have e:(BitVec.ofInt k.bits (.ofNat m) ^^^ BitVec.ofInt k.bits (.ofNat n)).toNat = m ^^^ n:=by
  rw [BitVec.toNat_xor]
  simp [BitVec.ofInt_natCast,Nat.mod_eq_of_lt hm,Nat.mod_eq_of_lt hn]
 rw [e]
 obtain ⟨b,hb,_⟩:=kmax_pow k
 have hp:0 < 2 ^ b:=Nat.two_pow_pos b
 have:=Nat.xor_lt_two_pow (x:=m) (y:=n) (n:=b) (by omega) (by omega)
 exact wrap_small k _ (by omega)
theorem wrapF_eq (k:IntKind) (n:Int):wrapF k n = k.wrap n:=by
 cases n with
 | negSucc m=>rfl
 | ofNat m =>
  show Bool.rec (motive:=fun _=>Int) (k.wrap (.ofNat m)) (.ofNat m) (Nat.ble m (kmax k)) = _
  cases h:Nat.ble m (kmax k) with
  | false=>rfl
  | true=>exact (wrap_small k m (Nat.le_of_ble_eq_true h)).symm
theorem ltF_eq (a b:Int):ltF a b = decide (a < b):=by
 cases a with
 | ofNat m=>cases b with
  | ofNat n =>
   show Nat.blt m n = _
   rw [Bool.eq_iff_iff]; simp [Nat.blt]; omega
  | negSucc n =>
   show false = _
   rw [Bool.eq_iff_iff]; simp; omega
 | negSucc m=>cases b with
  | ofNat n =>
   show true = _
   rw [Bool.eq_iff_iff]; simp; omega
  | negSucc n =>
   show Nat.blt n m = _
   rw [Bool.eq_iff_iff]; simp [Nat.blt]; omega
theorem eqF_eq (a b:Int):eqF a b = (a == b):=by
 cases a with
 | ofNat m=>cases b with
  | ofNat n =>
   show Nat.beq m n = _
   rw [Bool.eq_iff_iff]; simp; omega
  | negSucc n =>
   show false = _
   rw [Bool.eq_iff_iff]; simp
 | negSucc m=>cases b with
  | ofNat n =>
   show false = _
   rw [Bool.eq_iff_iff]; simp
  | negSucc n =>
   show Nat.beq n m = _
   rw [Bool.eq_iff_iff]; simp; omega
theorem retI_eq (k:IntKind) (n:Int):retI k n = some { v:=.d (.int k n) }:=litI_eq n _
theorem retB_eq (b:Bool):retB b = some { v:=.d (.bool b) }:=by cases b <;> rfl
theorem slowBin_eq (T:TypeId→Option Ty) (op:BinOp) (t:TypeId) (x y:V):slowBin T op t x y = (binA T op t x y).map fun v=>{ v }:=by
 unfold slowBin
 cases binA T op t x y with
 | none=>rfl
 | some v=>cases v <;> first
  | rfl
  | exact litD_eq _ _
theorem bitsF_eq {f:Nat→Nat→Nat} {g:Option Res} {k:IntKind} {a b:Int} {r:Int} (hg:g = some { v:=.d (.int k r) })
  (h:∀ m n,a = .ofNat m→b = .ofNat n→m ≤ kmax k→n ≤ kmax k→r = .ofNat (f m n)):bitsF f g k a b = g:=by
 cases a with
 | negSucc _=>rfl
 | ofNat m=>cases b with
  | negSucc _=>rfl
  | ofNat n =>
   show Bool.rec (motive:=fun _=>Option Res) g (Bool.rec (motive:=fun _=>Option Res) g (retI k (.ofNat (f m n))) (Nat.ble n (kmax k))) (Nat.ble m (kmax k)) = g
   cases h1:Nat.ble m (kmax k) with
   | false=>rfl
   | true =>
    cases h2:Nat.ble n (kmax k) with
    | false=>rfl
    | true =>
     show retI k (.ofNat (f m n)) = g
     rw [retI_eq,hg,h m n rfl rfl (Nat.le_of_ble_eq_true h1) (Nat.le_of_ble_eq_true h2)]
theorem intF_eq (T:TypeId→Option Ty) (op:BinOp) (t:TypeId) (k:IntKind) (a b:Int):intF T op t (.d (.int k a)) (.d (.int k b)) k a b = (binA T op t (.d (.int k a)) (.d (.int k b))).map fun v=>{ v }:=by
 have e1:∀ (op:BinOp) (d:D),op ≠ .shl→op ≠ .shr→intBin op k a b = some d→slowBin T op t (.d (.int k a)) (.d (.int k b)) = some { v:=.d d }:=by
  intro op d h1 h2 h
  rw [slowBin_eq]
  cases op <;> first
   | exact absurd rfl h1
   | exact absurd rfl h2
   | (simp only [binA,if_true,h]; rfl)
 rw [← slowBin_eq]
 cases op with
 | add=>exact (retI_eq k _).trans (by rw [wrapF_eq]; exact (e1 .add _ (by simp) (by simp) rfl).symm)
 | sub=>exact (retI_eq k _).trans (by rw [wrapF_eq]; exact (e1 .sub _ (by simp) (by simp) rfl).symm)
 | mul=>rfl
 | quo=>rfl
 | rem=>rfl
 | and=>exact bitsF_eq (e1 .and _ (by simp) (by simp) rfl) fun m n ha hb h h'=>by subst ha; subst hb; exact bits_and k m n h h'
 | or=>exact bitsF_eq (e1 .or _ (by simp) (by simp) rfl) fun m n ha hb h h'=>by subst ha; subst hb; exact bits_or k m n h h'
 | xor=>exact bitsF_eq (e1 .xor _ (by simp) (by simp) rfl) fun m n ha hb h h'=>by subst ha; subst hb; exact bits_xor k m n h h'
 | shl=>rfl
 | shr=>rfl
 | andNot=>rfl
 | eql=>exact (retB_eq _).trans (by rw [eqF_eq]; exact (e1 .eql _ (by simp) (by simp) rfl).symm)
 | neq=>exact (retB_eq _).trans (by rw [eqF_eq]; exact (e1 .neq _ (by simp) (by simp) rfl).symm)
 | lss=>exact (retB_eq _).trans (by rw [ltF_eq]; exact (e1 .lss _ (by simp) (by simp) rfl).symm)
 | leq=>exact (retB_eq _).trans (by
   rw [ltF_eq]
   refine Eq.trans ?_ (e1 .leq _ (by simp) (by simp) rfl).symm
   have:(!decide (b < a)) = decide (a ≤ b):=by rw [Bool.eq_iff_iff]; simp
   rw [this])
 | gtr=>exact (retB_eq _).trans (by rw [ltF_eq]; exact (e1 .gtr _ (by simp) (by simp) rfl).symm)
 | geq=>exact (retB_eq _).trans (by
   rw [ltF_eq]
   refine Eq.trans ?_ (e1 .geq _ (by simp) (by simp) rfl).symm
   have:(!decide (a < b)) = decide (a ≥ b):=by rw [Bool.eq_iff_iff]; simp
   rw [this])
theorem binF_eq (T:TypeId→Option Ty) (op:BinOp) (t:TypeId) (x y:V):binF T op t x y = (binA T op t x y).map fun v=>{ v }:=by
 unfold binF
 split
 ·rename_i k a k' b
  cases h:Nat.beq k.ctorIdx k'.ctorIdx with
  | false=>exact slowBin_eq ..
  | true =>
   have:k = k':=by
    have:=Nat.eq_of_beq_eq_true h
    cases k <;> cases k' <;> first
     | rfl
     | (simp [IntKind.ctorIdx] at this; done)
     | cases this
   subst this
   exact intF_eq T op t k a b
 ·exact slowBin_eq ..
theorem binG_eq (T:TypeId→Option Ty) (op:BinOp) (t:TypeId) (x y:V):(match binF T op t x y with
  | some r=>some r
  | none=>(eqAggA T op t x y).map fun v=>({ v }:Res)) = orD (binA T op t x y) ((eqAggA T op t x y).map fun v=>({ v }:Res)):=by
 rw [binF_eq]
 cases binA T op t x y <;> rfl
theorem lit1_eq (r:Option Res):lit1 r = r:=by
 unfold lit1
 split
 ·exact litD_eq _ _
 ·rfl
theorem actF_eq (o:Op) (T:TypeId→Option Ty) (g:Look) (slot:Nat) (vs:List V):actF o T g slot vs = act T g slot o vs:=by
 cases o with
 | move x=>rcases vs with _ | ⟨a,_ | ⟨b,vs⟩⟩ <;> rfl
 | assign x=>rcases vs with _ | ⟨a,_ | ⟨b,vs⟩⟩ <;> rfl
 | load t x=>rcases vs with _ | ⟨a,_ | ⟨b,vs⟩⟩ <;> rfl
 | store t x y=>rcases vs with _ | ⟨a,_ | ⟨b,_ | ⟨c,vs⟩⟩⟩ <;> rfl
 | binOp op t x y u =>
  rcases vs with _ | ⟨a,_ | ⟨b,_ | ⟨c,vs⟩⟩⟩ <;> first
   | rfl
   | exact binG_eq T op t a b
 | unOp op t x =>
  rcases vs with _ | ⟨a,_ | ⟨b,vs⟩⟩ <;> first
   | rfl
   | exact lit1_eq _
 | convert s d x =>
  rcases vs with _ | ⟨a,_ | ⟨b,vs⟩⟩ <;> first
   | rfl
   | exact lit1_eq _
 | fieldAddr s x f=>rcases vs with _ | ⟨a,_ | ⟨b,vs⟩⟩ <;> rfl
 | field s x f=>rcases vs with _ | ⟨a,_ | ⟨b,vs⟩⟩ <;> rfl
 | indexAddr s x i=>rcases vs with _ | ⟨a,_ | ⟨b,_ | ⟨c,vs⟩⟩⟩ <;> rfl
 | index s x i=>rcases vs with _ | ⟨a,_ | ⟨b,_ | ⟨c,vs⟩⟩⟩ <;> rfl
 | extract x i =>
  rcases vs with _ | ⟨a,_ | ⟨b,vs⟩⟩
  ·rfl
  ·cases a <;> rfl
  ·cases a <;> rfl
 | call c=>exact lit1_eq _
 | _=>rfl
end Go.Aev
