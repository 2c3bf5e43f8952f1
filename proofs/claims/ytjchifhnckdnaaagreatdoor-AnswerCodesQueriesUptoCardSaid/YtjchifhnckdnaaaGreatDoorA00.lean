/- Lemmas for the statements of this seat: an abstract machine that the model follows, and contracts of functions. Conditions: none. -/
import Derived.Calls
set_option linter.unusedVariables false
set_option linter.unusedSimpArgs false
set_option linter.unusedSectionVars false
section
namespace Go.Aev.M44
abbrev Bs:=List UInt8
def zz (n:Int):Nat:=if n < 0 then 2 * (-1 - n).toNat + 1 else 2 * n.toNat
def uz (z:Nat):Int:=if z % 2 = 1 then -1 - ((z / 2:Nat):Int) else ((z / 2:Nat):Int)
theorem uz_zz (n:Int):uz (zz n) = n:=by
 unfold uz zz
 by_cases h:n < 0
 ·rw [if_pos h]
  have e1:(2 * (-1 - n).toNat + 1) % 2 = 1:=by omega
  have e2:(2 * (-1 - n).toNat + 1) / 2 = (-1 - n).toNat:=by omega
  rw [if_pos e1,e2]; omega
 ·rw [if_neg h]
  have e1:¬ (2 * n.toNat) % 2 = 1:=by omega
  have e2:(2 * n.toNat) / 2 = n.toNat:=by omega
  rw [if_neg e1,e2]; omega
theorem zz_uz (z:Nat):zz (uz z) = z:=by
 unfold uz zz
 by_cases h:z % 2 = 1
 ·rw [if_pos h,if_pos (by omega)]; omega
 ·rw [if_neg h,if_neg (by omega)]; omega
def in64 (n:Int):Prop:=-9223372036854775808 ≤ n∧n ≤ 9223372036854775807
theorem zz_lt {n:Int} (h:in64 n):zz n < 18446744073709551616:=by
 unfold in64 at h; unfold zz; split <;> omega
theorem uz_in {z:Nat} (h:z < 18446744073709551616):in64 (uz z):=by
 unfold in64 uz; split <;> omega
def vb (z:Nat):Bs:=if h:z < 128 then [UInt8.ofNat z] else UInt8.ofNat (z % 128 + 128) :: vb (z / 128)
termination_by z
decreasing_by omega
def enc (n:Int):Bs:=vb (zz n)
def lead:Bs→Nat
 | []=>0
 | c :: r=>if 128 ≤ c.toNat then lead r + 1 else 0
def val:Bs→Nat→Nat
 | [],_=>0
 | c :: _,0=>c.toNat % 128
 | c :: r,k + 1=>c.toNat % 128 + 128 * val r k
def gInt (b:Bs):Except Nat (Int × Nat) :=
 if 10 ≤ lead b then .error 11
 else if lead b = b.length then .error 10
 else if (lead b = 9∧1 < (b.getD (lead b) 0).toNat) ∨ (0 < lead b∧(b.getD (lead b) 0).toNat = 0) then .error 11
 else .ok (uz (val b (lead b)),lead b + 1)
theorem u8_of {n:Nat} (h:n < 256):(UInt8.ofNat n).toNat = n:=by simp [Nat.mod_eq_of_lt h]
theorem lead_le (b:Bs):lead b ≤ b.length:=by
 induction b with
 | nil=>exact Nat.le_refl _
 | cons c r ih=>simp only [lead,List.length_cons]; split <;> omega
theorem vb_spec:∀ (z:Nat) (rest:Bs),lead (vb z ++ rest) + 1 = (vb z).length∧val (vb z ++ rest) (lead (vb z ++ rest)) = z∧((vb z ++ rest).getD (lead (vb z ++ rest)) 0).toNat < 128 ∧
  (0 < lead (vb z ++ rest)→((vb z ++ rest).getD (lead (vb z ++ rest)) 0).toNat ≠ 0)∧z < 128 ^ (vb z).length∧(1 < (vb z).length→128 ^ ((vb z).length - 1) ≤ z) ∧
  ((vb z ++ rest).getD (lead (vb z ++ rest)) 0).toNat * 128 ^ ((vb z).length - 1) ≤ z:=by
 intro z
 induction z using Nat.strongRecOn with
 | _ z ih =>
  intro rest
  rw [vb]
  by_cases h:z < 128
  ·rw [dif_pos h]
   have e:(UInt8.ofNat z).toNat = z:=u8_of (by omega)
   have hl:lead ([UInt8.ofNat z] ++ rest) = 0:=by
    show (if 128 ≤ (UInt8.ofNat z).toNat then lead rest + 1 else 0) = 0
    rw [e,if_neg (by omega)]
   rw [hl]
   refine ⟨rfl,?_,?_,fun h=>absurd h (by omega),?_,fun h=>absurd h (by simp),?_⟩
   ·show (UInt8.ofNat z).toNat % 128 = z
    rw [e]; omega
   ·show (UInt8.ofNat z).toNat < 128
    rw [e]; exact h
   ·show z < 128 ^ 1
    omega
   ·show (UInt8.ofNat z).toNat * 128 ^ 0 ≤ z
    rw [e]; simp
  ·rw [dif_neg h]
   obtain ⟨h1,h2,h3,h4,h5,h6,h7⟩:=ih (z / 128) (by omega) rest
   have e:(UInt8.ofNat (z % 128 + 128)).toNat = z % 128 + 128:=u8_of (by omega)
   have hl:lead (UInt8.ofNat (z % 128 + 128) :: vb (z / 128) ++ rest) = lead (vb (z / 128) ++ rest) + 1:=by
    show (if 128 ≤ (UInt8.ofNat (z % 128 + 128)).toNat then lead (vb (z / 128) ++ rest) + 1 else 0) = _
    rw [e,if_pos (by omega)]
   rw [hl]
   have hg:(UInt8.ofNat (z % 128 + 128) :: vb (z / 128) ++ rest).getD (lead (vb (z / 128) ++ rest) + 1) 0 = (vb (z / 128) ++ rest).getD (lead (vb (z / 128) ++ rest)) 0:=rfl
   rw [hg]
   have hlen:(UInt8.ofNat (z % 128 + 128) :: vb (z / 128)).length = (vb (z / 128)).length + 1:=rfl
   have hpos:1 ≤ (vb (z / 128)).length:=by omega
   rw [hlen]
   have hp:128 ^ (vb (z / 128)).length = 128 * 128 ^ ((vb (z / 128)).length - 1):=by
    conv=>lhs; rw [show (vb (z / 128)).length = ((vb (z / 128)).length - 1) + 1 by omega,Nat.pow_succ]
    exact Nat.mul_comm _ _
   refine ⟨by omega,?_,h3,fun _=>?_,?_,fun _=>?_,?_⟩
   ·show (UInt8.ofNat (z % 128 + 128)).toNat % 128 + 128 * val (vb (z / 128) ++ rest) (lead (vb (z / 128) ++ rest)) = z
    rw [e,h2]; omega
   ·by_cases h0:0 < lead (vb (z / 128) ++ rest)
    ·exact h4 h0
    ·-- one byte: z / 128,which is not 0
     have hz:lead (vb (z / 128) ++ rest) = 0:=by omega
     rw [hz] at h2 ⊢
     have hne:vb (z / 128) ≠ []:=by intro h; rw [h] at h1; simp at h1
     cases hv:vb (z / 128) with
     | nil=>exact absurd hv hne
     | cons c r =>
      rw [hv] at h2
      have h2':c.toNat % 128 = z / 128:=h2
      show c.toNat ≠ 0
      omega
   ·rw [Nat.pow_succ]
    omega
   ·simp only [Nat.add_sub_cancel]
    by_cases h0:1 < (vb (z / 128)).length
    ·have:=h6 h0
     rw [hp]
     omega
    ·have:(vb (z / 128)).length = 1:=by omega
     rw [this]; omega
   ·simp only [Nat.add_sub_cancel]
    rw [hp]
    have h8:=h7
    generalize ((vb (z / 128) ++ rest).getD (lead (vb (z / 128) ++ rest)) 0).toNat = c at h8 ⊢
    generalize 128 ^ ((vb (z / 128)).length - 1) = p at h8 ⊢
    have:c * (128 * p) = 128 * (c * p):=by rw [← Nat.mul_assoc,Nat.mul_comm c 128,Nat.mul_assoc]
    rw [this]
    omega
theorem vb_len {z:Nat} (h:z < 18446744073709551616):(vb z).length ≤ 10:=by
 obtain ⟨h1,_,_,_,_,h6,_⟩:=vb_spec z []
 rcases Nat.lt_or_ge 10 (vb z).length with hl | hl
 ·have:=h6 (by omega)
  have hp:128 ^ 10 ≤ 128 ^ ((vb z).length - 1):=Nat.pow_le_pow_right (by omega) (by omega)
  have:(128:Nat) ^ 10 = 1180591620717411303424:=by decide
  omega
 ·exact hl
theorem gInt_enc {n:Int} (h:in64 n) (rest:Bs):gInt (enc n ++ rest) = .ok (n,(enc n).length):=by
 obtain ⟨h1,h2,h3,h4,h5,h6,h7⟩:=vb_spec (zz n) rest
 have hl:=vb_len (zz_lt h)
 have hz:=zz_lt h
 unfold gInt enc
 rw [if_neg (by omega),if_neg (by simp; omega),if_neg,h2,uz_zz,h1]
 rintro (⟨h8,h9⟩ | ⟨h8,h9⟩)
 ·have e:(vb (zz n)).length - 1 = 9:=by omega
  rw [e] at h7
  have:(128:Nat) ^ 9 = 9223372036854775808:=by decide
  rw [this] at h7
  omega
 ·exact h4 h8 h9
theorem vb_val:∀ (b:Bs),lead b < b.length→(0 < lead b→(b.getD (lead b) 0).toNat ≠ 0)→b.take (lead b + 1) = vb (val b (lead b))
 | [],h,_=>absurd h (by simp)
 | c :: r,h,h0=>by
  by_cases hc:128 ≤ c.toNat
  ·have hl:lead (c :: r) = lead r + 1:=by simp only [lead]; rw [if_pos hc]
   rw [hl] at h h0 ⊢
   have h1:lead r < r.length:=by simpa using h
   have h2:(r.getD (lead r) 0).toNat ≠ 0:=h0 (by omega)
   have ih:=vb_val r h1 (fun _=>h2)
   show c :: r.take (lead r + 1) = vb (c.toNat % 128 + 128 * val r (lead r))
   have hv:0 < val r (lead r):=by
    have:∀ (k:Nat) (r:Bs),(r.getD k 0).toNat ≠ 0→(r.getD k 0).toNat < 128→0 < val r k:=by
     intro k
     induction k with
     | zero =>
      intro r hr hr2
      cases r with
      | nil=>simp at hr
      | cons d r =>
       show 0 < d.toNat % 128
       have h3:d.toNat ≠ 0:=hr
       have h4:d.toNat < 128:=hr2
       omega
     | succ k ih =>
      intro r hr hr2
      cases r with
      | nil=>simp at hr
      | cons d r =>
       show 0 < d.toNat % 128 + 128 * val r k
       have:=ih r hr hr2
       omega
    refine this _ _ h2 ?_
    have last:∀ (r:Bs),lead r < r.length→(r.getD (lead r) 0).toNat < 128:=by
     intro r
     induction r with
     | nil=>intro h; exact absurd h (by simp)
     | cons d r ih =>
      intro h
      by_cases hd:128 ≤ d.toNat
      ·have hl2:lead (d :: r) = lead r + 1:=by simp only [lead]; rw [if_pos hd]
       rw [hl2] at h ⊢
       exact ih (by simpa using h)
      ·have hl2:lead (d :: r) = 0:=by simp only [lead]; rw [if_neg hd]
       rw [hl2]
       show d.toNat < 128
       omega
    exact last r h1
   rw [vb,dif_neg (by omega),ih]
   have e1:(c.toNat % 128 + 128 * val r (lead r)) % 128 + 128 = c.toNat:=by
    have:=c.toNat_lt; omega
   have e2:(c.toNat % 128 + 128 * val r (lead r)) / 128 = val r (lead r):=by omega
   rw [e1,e2]
   simp
  ·have hl:lead (c :: r) = 0:=by simp only [lead]; rw [if_neg hc]
   rw [hl]
   show [c] = vb (c.toNat % 128)
   rw [vb,dif_pos (by omega)]
   have:c.toNat % 128 = c.toNat:=by omega
   rw [this]; simp
theorem val_lt:∀ (k:Nat) (b:Bs),val b k < 128 ^ (k + 1)
 | 0,[]=>by simp [val]
 | 0,c :: r=>by show c.toNat % 128 < 128 ^ 1; omega
 | k + 1,[]=>by simp only [val]; exact Nat.pow_pos (by omega)
 | k + 1,c :: r=>by
  have:=val_lt k r
  show c.toNat % 128 + 128 * val r k < 128 ^ (k + 1 + 1)
  rw [Nat.pow_succ 128 (k + 1)]
  omega
theorem val9_lt:∀ (k:Nat) (b:Bs),(b.getD k 0).toNat ≤ 1→val b k < 2 * 128 ^ k
 | 0,[],_=>by simp [val]
 | 0,c :: r,h=>by
  have h:c.toNat ≤ 1:=h
  show c.toNat % 128 < 2 * 128 ^ 0
  omega
 | k + 1,[],_=>by simp only [val]; have:0 < 128 ^ (k + 1):=Nat.pow_pos (by omega); omega
 | k + 1,c :: r,h=>by
  have:=val9_lt k r h
  show c.toNat % 128 + 128 * val r k < 2 * 128 ^ (k + 1)
  rw [Nat.pow_succ 128 k]
  omega
theorem gInt_ok {b:Bs} {n:Int} {u:Nat} (h:gInt b = .ok (n,u)):in64 n∧1 ≤ u∧u ≤ b.length∧b.take u = enc n:=by
 unfold gInt at h
 split at h
 ·cases h
 split at h
 ·cases h
 split at h
 ·cases h
 rename_i h1 h2 h3
 injection h with h
 injection h with h4 h5
 have hle:=lead_le b
 have hlt:lead b < b.length:=by omega
 have hz:val b (lead b) < 18446744073709551616:=by
  by_cases h9:lead b = 9
  ·have h10:(b.getD (lead b) 0).toNat ≤ 1:=by
    rcases Nat.lt_or_ge 1 (b.getD (lead b) 0).toNat with h | h
    ·exact absurd (.inl ⟨h9,h⟩) h3
    ·exact h
   have:=val9_lt (lead b) b h10
   rw [h9] at this ⊢
   have e:(128:Nat) ^ 9 = 9223372036854775808:=by decide
   omega
  ·have:=val_lt (lead b) b
   have hp:128 ^ (lead b + 1) ≤ 128 ^ 9:=Nat.pow_le_pow_right (by omega) (by omega)
   have e:(128:Nat) ^ 9 = 9223372036854775808:=by decide
   omega
 have hb:=vb_val b hlt (fun h0 h=>h3 (.inr ⟨h0,h⟩))
 subst h4; subst h5
 refine ⟨uz_in hz,by omega,by omega,?_⟩
 rw [hb,enc,zz_uz]
theorem enc_pos (n:Int):1 ≤ (enc n).length:=by
 obtain ⟨h1,_⟩:=vb_spec (zz n) []
 unfold enc; omega
end Go.Aev.M44
end
section
namespace Go.Aev.M44
def gLen (b:Bs) (least:Nat):Except Nat (Nat × Nat) :=
 match gInt b with
 | .error e=>.error e
 | .ok (n,u)=>if n < 0 then .error 11 else if (b.length - u) / least < n.toNat then .error 10 else .ok (n.toNat,u)
def gMany {α:Type} (one:Bs→Except Nat (α × Nat)) (b:Bs):Nat→Nat→Except Nat (List α × Nat)
 | 0,at'=>.ok ([],at')
 | n + 1,at'=>match one (b.drop at') with
  | .error e=>.error e
  | .ok (x,u)=>match gMany one b n (at' + u) with
   | .error e=>.error e
   | .ok (l,a)=>.ok (x :: l,a)
def gList {α:Type} (one:Bs→Except Nat (α × Nat)) (b:Bs):Except Nat (List α × Nat) :=
 match gLen b 1 with
 | .error e=>.error e
 | .ok (n,a)=>gMany one b n a
def gInts:Bs→Except Nat (List Int × Nat):=gList gInt
def gBytes (b:Bs):Except Nat (Bs × Nat) :=
 match gLen b 1 with
 | .error e=>.error e
 | .ok (n,u)=>.ok ((b.drop u).take n,u + n)
def gStrs:Bs→Except Nat (List Bs × Nat):=gList gBytes
def eBytes (s:Bs):Bs:=enc s.length ++ s
def eInts (l:List Int):Bs:=enc l.length ++ l.flatMap enc
def eStrs (l:List Bs):Bs:=enc l.length ++ l.flatMap eBytes
def short (n:Nat):Prop:=n ≤ 4611686018427387904
theorem gLen_enc {n:Nat} (h:short n) (rest:Bs) (hr:n ≤ rest.length):gLen (enc n ++ rest) 1 = .ok (n,(enc n).length):=by
 unfold gLen short at *
 rw [gInt_enc (by unfold in64; omega)]
 simp only
 rw [if_neg (by omega),if_neg (by simp; omega)]
 simp
theorem gLen_ok {b:Bs} {n u:Nat} (h:gLen b 1 = .ok (n,u)):1 ≤ u∧u + n ≤ b.length∧b.take u = enc n:=by
 unfold gLen at h
 split at h
 ·cases h
 ·rename_i m u' hg
  obtain ⟨h1,h2,h3,h4⟩:=gInt_ok hg
  split at h
  ·cases h
  split at h
  ·cases h
  rename_i h5 h6
  injection h with h
  injection h with h7 h8
  subst h8
  have e:(n:Int) = m:=by omega
  refine ⟨h2,?_,by rw [h4,e]⟩
  rw [Nat.div_one] at h6
  omega
structure Fit {α:Type} (one:Bs→Except Nat (α × Nat)) (wr:α→Bs) (ok:α→Prop):Prop where
 read:∀ x rest,ok x→one (wr x ++ rest) = .ok (x,(wr x).length)
 back:∀ b x u,short b.length→one b = .ok (x,u)→u ≤ b.length∧b.take u = wr x∧ok x
 pos:∀ x,1 ≤ (wr x).length
theorem gMany_read {α:Type} {one:Bs→Except Nat (α × Nat)} {wr:α→Bs} {ok:α→Prop} (hf:Fit one wr ok) (rest:Bs):∀ (l:List α) (pre:Bs),(∀ x ∈ l,ok x) →
  gMany one (pre ++ (l.flatMap wr ++ rest)) l.length pre.length = .ok (l,pre.length + (l.flatMap wr).length)
 | [],pre,_=>by simp [gMany]
 | x :: l,pre,h=>by
  have ih:=gMany_read hf rest l (pre ++ wr x) (fun y hy=>h y (List.mem_cons_of_mem _ hy))
  simp only [List.length_cons,gMany,List.flatMap_cons]
  rw [List.drop_left,List.append_assoc,hf.read x _ (h x (by simp))]
  simp only
  have e:pre ++ (wr x ++ (l.flatMap wr ++ rest)) = pre ++ wr x ++ (l.flatMap wr ++ rest):=by simp
  have e2:pre.length + (wr x).length = (pre ++ wr x).length:=by simp
  rw [e,e2,ih]
  simp; omega
theorem gMany_back {α:Type} {one:Bs→Except Nat (α × Nat)} {wr:α→Bs} {ok:α→Prop} (hf:Fit one wr ok) (b:Bs) (hb:short b.length):∀ (n a:Nat) (l:List α) (u:Nat),a ≤ b.length→gMany one b n a = .ok (l,u) →
  l.length = n∧a ≤ u∧u ≤ b.length∧(b.drop a).take (u - a) = l.flatMap wr∧∀ x ∈ l,ok x
 | 0,a,l,u,ha,h=>by
  simp only [gMany] at h
  injection h with h
  injection h with h1 h2
  subst h1; subst h2
  exact ⟨rfl,Nat.le_refl _,ha,by simp,fun x hx=>by cases hx⟩
 | n + 1,a,l,u,ha,h=>by
  simp only [gMany] at h
  split at h
  ·cases h
  ·rename_i x u1 h1
   split at h
   ·cases h
   ·rename_i l1 u2 h2
    injection h with h
    injection h with e1 e2
    subst e1; subst e2
    obtain ⟨k1,k2,k3⟩:=hf.back _ _ _ (by unfold short at *; simp; omega) h1
    rw [List.length_drop] at k1
    obtain ⟨j1,j2,j3,j4,j5⟩:=gMany_back hf b hb n (a + u1) l1 u2 (by omega) h2
    refine ⟨by simp [j1],by omega,j3,?_,fun y hy=>?_⟩
    ·rw [List.flatMap_cons,← j4,← k2]
     have e:u2 - a = u1 + (u2 - (a + u1)):=by omega
     rw [e,List.take_add,List.drop_drop]
    ·rcases List.mem_cons.1 hy with rfl | hy
     ·exact k3
     ·exact j5 y hy
theorem flat_len {α:Type} {wr:α→Bs} (hp:∀ x,1 ≤ (wr x).length):∀ l:List α,l.length ≤ (l.flatMap wr).length
 | []=>Nat.le_refl _
 | x :: l=>by
  have:=flat_len hp l
  have:=hp x
  simp only [List.length_cons,List.flatMap_cons,List.length_append]; omega
theorem gList_read {α:Type} {one:Bs→Except Nat (α × Nat)} {wr:α→Bs} {ok:α→Prop} (hf:Fit one wr ok) {l:List α} (hs:short l.length) (h:∀ x ∈ l,ok x) (rest:Bs) :
  gList one (enc l.length ++ l.flatMap wr ++ rest) = .ok (l,(enc l.length ++ l.flatMap wr).length):=by
 unfold gList
 rw [List.append_assoc,gLen_enc hs _ (by rw [List.length_append]; have:=flat_len hf.pos l; omega)]
 simp only
 rw [gMany_read hf rest l (enc l.length) h]
 simp
theorem gList_back {α:Type} {one:Bs→Except Nat (α × Nat)} {wr:α→Bs} {ok:α→Prop} (hf:Fit one wr ok) {b:Bs} (hb:short b.length) {l:List α} {u:Nat} (h:gList one b = .ok (l,u)) :
  u ≤ b.length∧b.take u = enc l.length ++ l.flatMap wr∧(∀ x ∈ l,ok x)∧l.length ≤ b.length:=by
 unfold gList at h
 split at h
 ·cases h
 ·rename_i n a hl
  obtain ⟨h1,h2,h3⟩:=gLen_ok hl
  obtain ⟨j1,j2,j3,j4,j5⟩:=gMany_back hf b hb n a l u (by omega) h
  refine ⟨j3,?_,j5,by omega⟩
  have e:u = a + (u - a):=by omega
  rw [e,List.take_add,h3,j4,j1]
theorem int_fit:Fit gInt enc in64 :=
 ⟨fun x rest h=>gInt_enc h rest,fun b x u _ h=>by obtain ⟨h1,h2,h3,h4⟩:=gInt_ok h; exact ⟨h3,h4,h1⟩,enc_pos⟩
theorem bytes_fit:Fit gBytes eBytes (fun s=>short s.length) :=
 ⟨fun x rest h=>by
  unfold gBytes eBytes
  rw [List.append_assoc,gLen_enc h _ (by simp)]
  simp,fun b x u hb h=>by
  unfold gBytes at h
  split at h
  ·cases h
  ·rename_i n a hl
   obtain ⟨h1,h2,h3⟩:=gLen_ok hl
   injection h with h
   injection h with e1 e2
   subst e1; subst e2
   have hlen:((b.drop a).take n).length = n:=by simp; omega
   refine ⟨h2,?_,?_⟩
   ·unfold eBytes
    rw [hlen,List.take_add,h3]
   ·show short _
    rw [hlen]
    unfold short at *
    omega,fun s=>by have:=enc_pos s.length; simp [eBytes]; omega⟩
end Go.Aev.M44
end
section
namespace Go.Aev.M44
inductive Pr where
 | mk (op:Int) (name:Bs) (n m:Int) (s:Bs) (subs:List Pr)
def Pr.op:Pr→Int | .mk o _ _ _ _ _=>o
def Pr.name:Pr→Bs | .mk _ n _ _ _ _=>n
def Pr.n:Pr→Int | .mk _ _ n _ _ _=>n
def Pr.m:Pr→Int | .mk _ _ _ m _ _=>m
def Pr.s:Pr→Bs | .mk _ _ _ _ s _=>s
def Pr.subs:Pr→List Pr | .mk _ _ _ _ _ l=>l
mutual
def parts:Pr→List Pr
 | .mk o nm n m s l=>.mk o nm n m s l :: partsL l
def partsL:List Pr→List Pr
 | []=>[]
 | p :: l=>parts p ++ partsL l
end
def num1 (p:Pr):List Int:=[p.op,p.n,p.m,(p.subs.length:Int)]
def txt1 (p:Pr):List Bs:=[p.name,p.s]
def nums (l:List Pr):List Int:=l.flatMap num1
def txts (l:List Pr):List Bs:=l.flatMap txt1
mutual
def pw:Nat→List Int→List Bs→Option (Pr × List Int × List Bs)
 | 0,_,_=>none
 | fuel + 1,o :: n :: m :: c :: ns,nm :: s :: ts =>
  if c < 0 ∨ 64 < c then none else match pwL fuel c.toNat ns ts with
   | some (l,ns',ts')=>some (.mk o nm n m s l,ns',ts')
   | none=>none
 | _ + 1,_,_=>none
def pwL:Nat→Nat→List Int→List Bs→Option (List Pr × List Int × List Bs)
 | _,0,ns,ts=>some ([],ns,ts)
 | 0,_ + 1,_,_=>none
 | fuel + 1,k + 1,ns,ts=>match pw fuel ns ts with
  | some (p,ns',ts')=>match pwL fuel k ns' ts' with
   | some (l,ns2,ts2)=>some (p :: l,ns2,ts2)
   | none=>none
  | none=>none
end
end Go.Aev.M44
end
section
namespace Go.Aev.M44
mutual
def szP:Pr→Nat
 | .mk _ _ _ _ _ l=>szL l + 1
def szL:List Pr→Nat
 | []=>0
 | p :: l=>max (szP p) (szL l) + 1
end
mutual
def okP:Pr→Prop
 | .mk _ _ _ _ _ l=>l.length ≤ 64∧okL l
def okL:List Pr→Prop
 | []=>True
 | p :: l=>okP p∧okL l
end
theorem nums_append (a b:List Pr):nums (a ++ b) = nums a ++ nums b:=by simp [nums]
theorem txts_append (a b:List Pr):txts (a ++ b) = txts a ++ txts b:=by simp [txts]
mutual
theorem pw_parts:∀ (p:Pr) (fuel:Nat) (ns:List Int) (ts:List Bs),szP p ≤ fuel→okP p→pw fuel (nums (parts p) ++ ns) (txts (parts p) ++ ts) = some (p,ns,ts)
 | .mk o nm n m s l,0,ns,ts,h,_=>by simp [szP] at h
 | .mk o nm n m s l,fuel + 1,ns,ts,h,hk=>by
  simp only [szP] at h
  simp only [okP] at hk
  have ih:=pwL_parts l fuel ns ts (by omega) hk.2
  have e1:nums (parts (.mk o nm n m s l)) = o :: n :: m :: (l.length:Int) :: nums (partsL l):=by simp [parts,nums,num1,Pr.op,Pr.n,Pr.m,Pr.subs]
  have e2:txts (parts (.mk o nm n m s l)) = nm :: s :: txts (partsL l):=by simp [parts,txts,txt1,Pr.name,Pr.s]
  rw [e1,e2]
  simp only [List.cons_append,pw]
  rw [if_neg (by omega),Int.toNat_natCast,ih]
theorem pwL_parts:∀ (l:List Pr) (fuel:Nat) (ns:List Int) (ts:List Bs),szL l ≤ fuel→okL l→pwL fuel l.length (nums (partsL l) ++ ns) (txts (partsL l) ++ ts) = some (l,ns,ts)
 | [],fuel,ns,ts,_,_=>by simp [pwL,partsL,nums,txts]
 | p :: l,0,ns,ts,h,_=>by simp [szL] at h
 | p :: l,fuel + 1,ns,ts,h,hk=>by
  simp only [szL] at h
  simp only [okL] at hk
  have h1:=pw_parts p fuel (nums (partsL l) ++ ns) (txts (partsL l) ++ ts) (by omega) hk.1
  have h2:=pwL_parts l fuel ns ts (by omega) hk.2
  simp only [partsL,nums_append,txts_append,List.append_assoc,List.length_cons,pwL]
  rw [h1]
  simp only
  rw [h2]
end
end Go.Aev.M44
end
section
namespace Go.Aev.M44
theorem back_both:∀ (fuel:Nat),
  (∀ (ns:List Int) (ts:List Bs) (p:Pr) (ns':List Int) (ts':List Bs),pw fuel ns ts = some (p,ns',ts')→ns = nums (parts p) ++ ns'∧ts = txts (parts p) ++ ts'∧okP p) ∧
  (∀ (k:Nat) (ns:List Int) (ts:List Bs) (l:List Pr) (ns':List Int) (ts':List Bs),pwL fuel k ns ts = some (l,ns',ts')→ns = nums (partsL l) ++ ns'∧ts = txts (partsL l) ++ ts'∧okL l∧l.length = k):=by
 intro fuel
 induction fuel with
 | zero =>
  refine ⟨fun ns ts p ns' ts' h=>by simp [pw] at h,fun k ns ts l ns' ts' h=>?_⟩
  cases k with
  | zero =>
   simp only [pwL] at h
   cases h
   exact ⟨by simp [partsL,nums],by simp [partsL,txts],by simp only [okL],rfl⟩
  | succ k=>simp [pwL] at h
 | succ fuel ih =>
  obtain ⟨ih1,ih2⟩:=ih
  refine ⟨fun ns ts p ns' ts' h=>?_,fun k ns ts l ns' ts' h=>?_⟩
  ·match ns,ts,h with
   | o :: n :: m :: c :: ns,nm :: s :: ts,h =>
    simp only [pw] at h
    split at h
    ·cases h
    ·rename_i hc
     split at h
     ·rename_i l ns2 ts2 hl
      cases h
      obtain ⟨h1,h2,h3,h4⟩:=ih2 _ _ _ _ _ _ hl
      subst h1; subst h2
      have hcl:(l.length:Int) = c:=by omega
      have e1:nums (parts (.mk o nm n m s l)) = o :: n :: m :: (l.length:Int) :: nums (partsL l):=by simp [parts,nums,num1,Pr.op,Pr.n,Pr.m,Pr.subs]
      have e2:txts (parts (.mk o nm n m s l)) = nm :: s :: txts (partsL l):=by simp [parts,txts,txt1,Pr.name,Pr.s]
      rw [e1,e2,hcl]
      refine ⟨by simp,by simp,?_⟩
      simp only [okP]
      exact ⟨by omega,h3⟩
     ·cases h
   | [],_,h=>simp [pw] at h
   | [_],_,h=>simp [pw] at h
   | [_,_],_,h=>simp [pw] at h
   | [_,_,_],_,h=>simp [pw] at h
   | _ :: _ :: _ :: _ :: _,[],h=>simp [pw] at h
   | _ :: _ :: _ :: _ :: _,[_],h=>simp [pw] at h
  ·cases k with
   | zero =>
    simp only [pwL] at h
    cases h
    exact ⟨by simp [partsL,nums],by simp [partsL,txts],by simp only [okL],rfl⟩
   | succ k =>
    simp only [pwL] at h
    split at h
    ·rename_i p ns1 ts1 hp
     split at h
     ·rename_i l2 ns2 ts2 hl
      cases h
      obtain ⟨h1,h2,h3⟩:=ih1 _ _ _ _ _ hp
      obtain ⟨k1,k2,k3,k4⟩:=ih2 _ _ _ _ _ _ hl
      refine ⟨?_,?_,?_,by simp [k4]⟩
      ·rw [h1,k1]; simp only [partsL,nums_append,List.append_assoc]
      ·rw [h2,k2]; simp only [partsL,txts_append,List.append_assoc]
      ·simp only [okL]; exact ⟨h3,k3⟩
     ·cases h
    ·cases h
end Go.Aev.M44
end
section
namespace Go.Aev.M44
end Go.Aev.M44
end
