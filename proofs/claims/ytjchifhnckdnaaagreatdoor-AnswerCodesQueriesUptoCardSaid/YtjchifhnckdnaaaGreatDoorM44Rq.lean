/- Lemmas for the statements of this seat: an abstract machine that the model follows, and contracts of functions. Conditions: none. -/
import Derived.Test.YtjchifhnckdnaaaGreatDoorA21
set_option linter.unusedVariables false
set_option linter.unusedSimpArgs false
set_option linter.unusedSectionVars false
namespace Go.Aev.M44
set_option maxRecDepth 1000000
open Go Go.Aev
def rqV:Except Nat Qy→V
 | .ok q=>.d (.agg (qC q ++ [.int .i64 0]))
 | .error e=>.d (.agg (zeroC ++ [.int .i64 (e:Int)]))
def dqx (l:List Int) (t:List Bs):Except Nat Qy:=match dqOf l t with | some q=>.ok q | none=>.error 11
theorem toDs_data (g:Look):∀ (ds:List D),toDs g (ds.map V.d) = some (ds,[])
 | []=>rfl
 | d :: ds=>by simp only [List.map_cons,toDs,toD1,toDs_data g ds]; rfl
theorem conv_sl1 {rows:Aev.Rows} {r len c:Nat} {es:List D} {ex ro:Bool} {ds:List D} (hr:liveAt rows r = some (.dat 1 es ro)) (hl:len = es.length) :
  convV (liveAt rows) (.agg (.sl r 1 0 len c ex :: ds.map V.d)) = some (.d (.agg (.list es :: ds))):=by
 have h1:toD1 (liveAt rows) (.sl r 1 0 len c ex) = some (.list es,[(r,.live (.dat 1 es true))]):=by
  simp only [toD1,hr,hl,true_and,Nat.zero_add,Nat.le_refl,if_true,List.drop_zero,List.take_length]
 have h2:toDs (liveAt rows) (.sl r 1 0 len c ex :: ds.map V.d) = some (.list es :: ds,[(r,.live (.dat 1 es true))] ++ []):=by
  simp only [toDs,h1,toDs_data]
 unfold convV
 simp only [conv1,h2]
theorem rw_le2:∀ (f:Nat),
  (∀ (ns:List Int) (ts:List Bs) (i:Nat) (p:Pr) (a:Nat),rw' f ns ts i = some (p,a)→2 * (i + a) ≤ ts.length) ∧
  (∀ (k:Nat) (ns:List Int) (ts:List Bs) (i:Nat) (l:List Pr) (b:Nat),2 * i ≤ ts.length→rwL f k ns ts i = some (l,b)→2 * (i + b) ≤ ts.length):=by
 intro f
 induction f with
 | zero =>
  refine ⟨fun ns ts i p a h=>by simp [rw'] at h,fun k ns ts i l b hi h=>?_⟩
  cases k with
  | zero=>simp [rwL] at h; omega
  | succ k=>simp [rwL] at h
 | succ f ih =>
  obtain ⟨ih1,ih2⟩:=ih
  refine ⟨fun ns ts i p a h=>?_,fun k ns ts i l b hi h=>?_⟩
  ·rcases drop2 (ts:=ts) (i:=i) with ⟨x,y,r,h1,h2⟩ | h1
   ·have hl:(ts.drop (2 * i)).length = ts.length - 2 * i:=List.length_drop
    rw [h1] at hl
    simp only [List.length_cons] at hl
    simp only [rw'] at h
    split at h
    ·split at h
     ·cases h
     ·split at h
      ·rename_i l k hk
       cases h
       have:=ih2 _ _ _ _ _ _ (by omega) hk
       omega
      ·cases h
    ·cases h
   ·exfalso
    have hl:(ts.drop (2 * i)).length < 2:=by rw [List.length_drop]; omega
    simp only [rw'] at h
    split at h
    ·rename_i _ e
     have:=congrArg List.length e
     simp at this
     omega
    ·cases h
  ·cases k with
   | zero=>simp [rwL] at h; omega
   | succ k =>
    simp only [rwL] at h
    split at h
    ·cases h
    ·rename_i p a hp
     split at h
     ·cases h
     ·rename_i l2 b2 hl
      cases h
      have h1:=ih1 _ _ _ _ _ hp
      have:=ih2 _ _ _ _ _ _ h1 hl
      omega
theorem rr_ends {h0 h1 h2 h3 h4 h5:Int} {y:List Int} {t:List Bs} (hy:fits (y.length + 6)) (ht:fits t.length) (hn:0 ≤ h5) (hle:h5 ≤ (y.length:Int)) :
  Ends (cD (.error 0) (.error 0) none none zp) 0 (HD6 (h0 :: h1 :: h2 :: h3 :: h4 :: h5 :: y) t) (fun v rows=>convV (liveAt rows) v = some (rqV (dqx (h0 :: h1 :: h2 :: h3 :: h4 :: h5 :: y) t))):=by
 have hy':=hy
 have ht':=ht
 unfold fits at hy' ht'
 generalize hl:h0 :: h1 :: h2 :: h3 :: h4 :: h5 :: y = l
 have el:l.length = y.length + 6:=by rw [← hl]; rfl
 have ell:=ints_len l
 have q0:l.getD 0 0 = h0:=by rw [← hl]; rfl
 have q1:l.getD 1 0 = h1:=by rw [← hl]; rfl
 have q2:l.getD 2 0 = h2:=by rw [← hl]; rfl
 have q3:l.getD 3 0 = h3:=by rw [← hl]; rfl
 have q4:l.getD 4 0 = h4:=by rw [← hl]; rfl
 have q5:l.getD 5 0 = h5:=by rw [← hl]; rfl
 have hr6:Int.toNat ((6:Int) + l.getD 5 0) = 6 + h5.toNat:=by rw [q5]; omega
 have hrest:List.take ((ints l).length - Int.toNat ((6:Int) + List.getD l (5) (0:Int))) (List.drop (Int.toNat ((6:Int) + List.getD l (5) (0:Int))) (ints l)) = ints (y.drop h5.toNat):=by
  rw [← List.length_drop,List.take_length,hr6,ints_dr,← List.drop_drop,← hl]; rfl
 have hvec:List.take (Int.toNat ((6:Int) + List.getD l (5) (0:Int)) - 6) (List.drop (6) (ints l)) = ints (y.take h5.toNat):=by
  rw [hr6,show 6 + h5.toNat - 6 = h5.toNat by omega,ints_dr,ints_tk,← hl]; rfl
 have ev:=ints_len (y.take h5.toNat)
 have ev2:(y.take h5.toNat).length = h5.toNat:=by rw [List.length_take]; omega
 have er:=ints_len (y.drop h5.toNat)
 have er2:(y.drop h5.toNat).length = y.length - h5.toNat:=List.length_drop
 have a0:(0:Int) ≤ (0:Int)∧(0:Int) < ((ints l).length:Int):=by omega
 have a1:(0:Int) ≤ (1:Int)∧(1:Int) < ((ints l).length:Int):=by omega
 have a2:(0:Int) ≤ (2:Int)∧(2:Int) < ((ints l).length:Int):=by omega
 have a3:(0:Int) ≤ (3:Int)∧(3:Int) < ((ints l).length:Int):=by omega
 have a4:(0:Int) ≤ (4:Int)∧(4:Int) < ((ints l).length:Int):=by omega
 have a5:(0:Int) ≤ (5:Int)∧(5:Int) < ((ints l).length:Int):=by omega
 have g0:(ints l)[0]? = some (D.int IntKind.i64 (List.getD l (0) (0:Int))):=ints_get (by omega)
 have g1:(ints l)[1]? = some (D.int IntKind.i64 (List.getD l (1) (0:Int))):=ints_get (by omega)
 have g2:(ints l)[2]? = some (D.int IntKind.i64 (List.getD l (2) (0:Int))):=ints_get (by omega)
 have g3:(ints l)[3]? = some (D.int IntKind.i64 (List.getD l (3) (0:Int))):=ints_get (by omega)
 have g4:(ints l)[4]? = some (D.int IntKind.i64 (List.getD l (4) (0:Int))):=ints_get (by omega)
 have g5:(ints l)[5]? = some (D.int IntKind.i64 (List.getD l (5) (0:Int))):=ints_get (by omega)
 have i6:inInt ((6:Int) + List.getD l (5) (0:Int)):=by rw [q5]; unfold inInt; omega
 have i7:(0:Int) ≤ (6:Int) + List.getD l (5) (0:Int):=by rw [q5]; omega
 have b1:6 ≤ Int.toNat ((6:Int) + List.getD l (5) (0:Int))∧Int.toNat ((6:Int) + List.getD l (5) (0:Int)) ≤ (ints l).length:=by rw [hr6]; omega
 have b2:Int.toNat ((6:Int) + List.getD l (5) (0:Int)) ≤ (ints l).length∧(ints l).length ≤ (ints l).length:=by rw [hr6]; omega
 have b3:=ints_all1 l
 have b4:((List.take (Int.toNat ((6:Int) + List.getD l (5) (0:Int)) - 6) (List.drop (6) (ints l))).all fun e=>List.length (D.cells e) == 1) = true:=by rw [hvec]; exact ints_all1 _
 have c1:isI (List.take ((ints l).length - Int.toNat ((6:Int) + List.getD l (5) (0:Int))) (List.drop (Int.toNat ((6:Int) + List.getD l (5) (0:Int))) (ints l))):=by rw [hrest]; exact isI_ints _
 have c2:fits (List.take ((ints l).length - Int.toNat ((6:Int) + List.getD l (5) (0:Int))) (List.drop (Int.toNat ((6:Int) + List.getD l (5) (0:Int))) (ints l))).length:=by rw [hrest]; unfold fits; omega
 have c3:fits (strs t).length:=by rw [strs_len]; exact ht
 have et:=strs_len t
 have hd:dqOf l t = if 256 < (y.drop h5.toNat).length then none else
  match pw ((y.drop h5.toNat).length + 1) (y.drop h5.toNat) t with
  | some (p,[],[])=>some ⟨y.take h5.toNat,h0,h1,h2,h3,h4,p⟩
  | _=>none:=by
  rw [← hl]
  simp only [dqOf]
  rw [if_neg (by omega)]
  by_cases hc:256 < (y.drop h5.toNat).length
  ·rw [if_pos hc,if_pos hc]
  ·rw [if_neg hc,if_neg hc]
   cases pw ((y.drop h5.toNat).length + 1) (y.drop h5.toNat) t with
   | none=>rfl
   | some r =>
    obtain ⟨p,ns',ts'⟩:=r
    cases ns' <;> cases ts' <;> rfl
 -- nothing is appended,or something
 have hz:h5.toNat = 0 ∨ h5.toNat ≠ 0:=by omega
 by_cases h256:256 < (y.drop h5.toNat).length
 ·have hD:decide (((List.take ((ints l).length - Int.toNat ((6:Int) + List.getD l (5) (0:Int))) (List.drop (Int.toNat ((6:Int) + List.getD l (5) (0:Int))) (ints l))).length:Int) > (256:Int)) = true:=by rw [hrest]; exact decide_eq_true (by omega)
  have hq:dqx l t = .error 11:=by unfold dqx; rw [hd,if_pos h256]
  rw [hq]
  rcases hz with hz | hz
  ·exact rrz_l ⟨a0,g0,rfl,a1,g1,rfl,a2,g2,rfl,a3,g3,rfl,a4,g4,rfl,a5,g5,rfl,i6,by omega,i7,b1,b3,b4,by rw [hvec]; omega,a5,g5,rfl,i6,i7,b2,b3,hD,trivial⟩ rfl
  ·exact rra_l ⟨a0,g0,rfl,a1,g1,rfl,a2,g2,rfl,a3,g3,rfl,a4,g4,rfl,a5,g5,rfl,i6,by omega,i7,b1,b3,b4,by rw [hvec]; refine ⟨by omega,by omega,rfl,rfl,by omega,by omega,by omega,by omega⟩,a5,g5,rfl,i6,i7,b2,b3,hD,trivial⟩ rfl
 ·have hD:decide (((List.take ((ints l).length - Int.toNat ((6:Int) + List.getD l (5) (0:Int))) (List.drop (Int.toNat ((6:Int) + List.getD l (5) (0:Int))) (ints l))).length:Int) > (256:Int)) = false:=by rw [hrest]; exact decide_eq_false (by omega)
  have hpw:=(rw_pw ((y.drop h5.toNat).length + 1)).1 (y.drop h5.toNat) t 0
  simp only [Nat.mul_zero,List.drop_zero,Nat.zero_add] at hpw
  cases hr:rw' ((y.drop h5.toNat).length + 1) (y.drop h5.toNat) t 0 with
  | none =>
   rw [hr] at hpw
   have hq:dqx l t = .error 11:=by unfold dqx; rw [hd,if_neg h256,hpw]; rfl
   rw [hq]
   have w:rwIs ((List.take ((ints l).length - Int.toNat ((6:Int) + List.getD l (5) (0:Int))) (List.drop (Int.toNat ((6:Int) + List.getD l (5) (0:Int))) (ints l))).length + 1) (List.map unI (List.take ((ints l).length - Int.toNat ((6:Int) + List.getD l (5) (0:Int))) (List.drop (Int.toNat ((6:Int) + List.getD l (5) (0:Int))) (ints l)))) (List.map unS (strs t)) 0 none:=by
    unfold rwIs; rw [hrest,unI_ints,unS_strs,ints_len]; exact hr
   rcases hz with hz | hz
   ·exact rrz_n ⟨a0,g0,rfl,a1,g1,rfl,a2,g2,rfl,a3,g3,rfl,a4,g4,rfl,a5,g5,rfl,i6,by omega,i7,b1,b3,b4,by rw [hvec]; omega,a5,g5,rfl,i6,i7,b2,b3,hD,rfl,c1,isS_strs _,c2,c3,w,trivial⟩ rfl
   ·exact rra_n ⟨a0,g0,rfl,a1,g1,rfl,a2,g2,rfl,a3,g3,rfl,a4,g4,rfl,a5,g5,rfl,i6,by omega,i7,b1,b3,b4,by rw [hvec]; refine ⟨by omega,by omega,rfl,rfl,by omega,by omega,by omega,by omega⟩,a5,g5,rfl,i6,i7,b2,b3,hD,rfl,c1,isS_strs _,c2,c3,w,trivial⟩ rfl
  | some pk =>
   obtain ⟨⟨o,nm,n,m,u,l1⟩,k⟩:=pk
   rw [hr] at hpw
   simp only [Option.map_some] at hpw
   have hk:=(rw_le _).1 _ _ _ _ _ hr
   refine Ends.cfg (c:=cD (.error 0) (.error 0) (some (.mk o nm n m u l1,k)) none zp) rfl ?_
   have w:rwIs ((List.take ((ints l).length - Int.toNat ((6:Int) + List.getD l (5) (0:Int))) (List.drop (Int.toNat ((6:Int) + List.getD l (5) (0:Int))) (ints l))).length + 1) (List.map unI (List.take ((ints l).length - Int.toNat ((6:Int) + List.getD l (5) (0:Int))) (List.drop (Int.toNat ((6:Int) + List.getD l (5) (0:Int))) (ints l)))) (List.map unS (strs t)) 0 (some (.mk o nm n m u l1,k)):=by
    unfold rwIs; rw [hrest,unI_ints,unS_strs,ints_len]; exact hr
   have k1:inInt ((4:Int) * (k:Int)):=by unfold inInt; omega
   have k2:inInt ((2:Int) * (k:Int)):=by unfold inInt; omega
   by_cases e1:(y.drop h5.toNat).length = 4 * k
   ·have x1:(((List.take ((ints l).length - Int.toNat ((6:Int) + List.getD l (5) (0:Int))) (List.drop (Int.toNat ((6:Int) + List.getD l (5) (0:Int))) (ints l))).length:Int) != (4:Int) * (k:Int)) = false:=by rw [hrest]; simp; omega
    by_cases e2:t.length = 2 * k
    ·have x2:(((strs t).length:Int) != (2:Int) * (k:Int)) = false:=by simp; omega
     have n1:(y.drop h5.toNat).drop (4 * k) = []:=List.drop_of_length_le (by omega)
     have n2:t.drop (2 * k) = []:=List.drop_of_length_le (by omega)
     rw [n1,n2] at hpw
     have hq:dqx l t = .ok ⟨y.take h5.toNat,h0,h1,h2,h3,h4,.mk o nm n m u l1⟩:=by unfold dqx; rw [hd,if_neg h256,hpw]
     rw [hq]
     rcases hz with hz | hz
     ·refine rrz_sff ⟨a0,g0,rfl,a1,g1,rfl,a2,g2,rfl,a3,g3,rfl,a4,g4,rfl,a5,g5,rfl,i6,by omega,i7,b1,b3,b4,by rw [hvec]; omega,a5,g5,rfl,i6,i7,b2,b3,hD,rfl,c1,isS_strs _,c2,c3,w,k1,x1,x1,x1,x1,x1,k2,x1,x1,x2,trivial⟩ ?_
      have hv0:y.take h5.toNat = []:=by rw [hz]; rfl
      rw [q0,q1,q2,q3,q4,hv0]
      exact conv_sl1 (ds:=[.int .i64 h0,.int .i64 h1,.int .i64 o,strD nm,.int .i64 n,.int .i64 m,strD u,.list (prDs l1),.int .i64 h2,.int .i64 h3,.int .i64 h4,.int .i64 0]) rfl rfl
     ·refine rra_sff ⟨a0,g0,rfl,a1,g1,rfl,a2,g2,rfl,a3,g3,rfl,a4,g4,rfl,a5,g5,rfl,i6,by omega,i7,b1,b3,b4,by rw [hvec]; refine ⟨by omega,by omega,rfl,rfl,by omega,by omega,by omega,by omega⟩,a5,g5,rfl,i6,i7,b2,b3,hD,rfl,c1,isS_strs _,c2,c3,w,k1,x1,x1,x1,x1,x1,k2,x1,x1,x2,trivial⟩ ?_
      rw [q0,q1,q2,q3,q4,hvec]
      exact conv_sl1 (ds:=[.int .i64 h0,.int .i64 h1,.int .i64 o,strD nm,.int .i64 n,.int .i64 m,strD u,.list (prDs l1),.int .i64 h2,.int .i64 h3,.int .i64 h4,.int .i64 0]) rfl (by simp)
    ·have x2:(((strs t).length:Int) != (2:Int) * (k:Int)) = true:=by simp; omega
     have hk2:=(rw_le2 _).1 _ _ _ _ _ hr
     have hne:t.drop (2 * k) ≠ []:=by
      intro e; have:=congrArg List.length e; rw [List.length_drop] at this; simp at this; omega
     have hq:dqx l t = .error 11:=by
      unfold dqx; rw [hd,if_neg h256,hpw]
      cases hdt:t.drop (2 * k) with
      | nil=>exact absurd hdt hne
      | cons x r=>cases (y.drop h5.toNat).drop (4 * k) <;> rfl
     rw [hq]
     rcases hz with hz | hz
     ·exact rrz_sft ⟨a0,g0,rfl,a1,g1,rfl,a2,g2,rfl,a3,g3,rfl,a4,g4,rfl,a5,g5,rfl,i6,by omega,i7,b1,b3,b4,by rw [hvec]; omega,a5,g5,rfl,i6,i7,b2,b3,hD,rfl,c1,isS_strs _,c2,c3,w,k1,x1,x1,x1,x1,x1,k2,x1,x1,x2,trivial⟩ rfl
     ·exact rra_sft ⟨a0,g0,rfl,a1,g1,rfl,a2,g2,rfl,a3,g3,rfl,a4,g4,rfl,a5,g5,rfl,i6,by omega,i7,b1,b3,b4,by rw [hvec]; refine ⟨by omega,by omega,rfl,rfl,by omega,by omega,by omega,by omega⟩,a5,g5,rfl,i6,i7,b2,b3,hD,rfl,c1,isS_strs _,c2,c3,w,k1,x1,x1,x1,x1,x1,k2,x1,x1,x2,trivial⟩ rfl
   ·have x1:(((List.take ((ints l).length - Int.toNat ((6:Int) + List.getD l (5) (0:Int))) (List.drop (Int.toNat ((6:Int) + List.getD l (5) (0:Int))) (ints l))).length:Int) != (4:Int) * (k:Int)) = true:=by rw [hrest]; simp; omega
    have hq:dqx l t = .error 11:=by
     unfold dqx; rw [hd,if_neg h256,hpw]
     cases hdt:(y.drop h5.toNat).drop (4 * k) with
     | nil=>have:=congrArg List.length hdt; rw [List.length_drop] at this; simp at this; omega
     | cons x r=>rfl
    rw [hq]
    rcases hz with hz | hz
    ·exact rrz_st ⟨a0,g0,rfl,a1,g1,rfl,a2,g2,rfl,a3,g3,rfl,a4,g4,rfl,a5,g5,rfl,i6,by omega,i7,b1,b3,b4,by rw [hvec]; omega,a5,g5,rfl,i6,i7,b2,b3,hD,rfl,c1,isS_strs _,c2,c3,w,k1,x1,x1,x1,x1,x1,x1,x1,trivial⟩ rfl
    ·exact rra_st ⟨a0,g0,rfl,a1,g1,rfl,a2,g2,rfl,a3,g3,rfl,a4,g4,rfl,a5,g5,rfl,i6,by omega,i7,b1,b3,b4,by rw [hvec]; refine ⟨by omega,by omega,rfl,rfl,by omega,by omega,by omega,by omega⟩,a5,g5,rfl,i6,i7,b2,b3,hD,rfl,c1,isS_strs _,c2,c3,w,k1,x1,x1,x1,x1,x1,x1,x1,trivial⟩ rfl
theorem ref_dq {b:Bs} (hb:fits b.length):RCs PP 6 [LB b] [] (rqV (dq b)):=by
 have hb':=hb
 unfold fits at hb'
 have el:=bytesL_len b
 unfold dq
 cases hg:gInts b with
 | error e=>exact rcs_of (cD_ok (.error e) (.error 0) none none zp) (by kernel_rfl) (rq_e ⟨isB_bytes b,fitsL_bytes hb,by unfold giIs; rw [unB_bytes]; exact hg,ne_dec (gInts_err hg),trivial⟩ rfl)
 | ok lu =>
  obtain ⟨l,u⟩:=lu
  obtain ⟨hu,_,_,hl⟩:=gList_back int_fit (fits_short hb) hg
  have a3:giIs (List.map unB (bytesL b)) (.ok (l,u)):=by unfold giIs; rw [unB_bytes]; exact hg
  have a5:Int.toNat (u:Int) ≤ (bytesL b).length∧(bytesL b).length ≤ (bytesL b).length:=by omega
  have hbd:fits (b.drop u).length:=by unfold fits; rw [List.length_drop]; omega
  have a7:isB (List.take ((bytesL b).length - Int.toNat (u:Int)) (List.drop (Int.toNat (u:Int)) (bytesL b))):=by rw [rest_eq]; exact isB_bytes _
  have a8:fitsL (List.take ((bytesL b).length - Int.toNat (u:Int)) (List.drop (Int.toNat (u:Int)) (bytesL b))):=by rw [rest_eq]; exact fitsL_bytes hbd
  simp only
  cases hs:gStrs (b.drop u) with
  | error e=>exact rcs_of (cD_ok (.ok (l,u)) (.error e) none none zp) (by kernel_rfl) (rq_f ⟨isB_bytes b,fitsL_bytes hb,a3,by omega,a5,all1 b,a7,a8,by unfold gsIs; rw [rest_eq,unB_bytes]; exact hs,ne_dec (gStrs_err hs),trivial⟩ rfl)
  | ok tv =>
   obtain ⟨t,v⟩:=tv
   obtain ⟨hv,_,_,ht⟩:=gList_back bytes_fit (fits_short hbd) hs
   rw [List.length_drop] at hv ht
   have a9:gsIs (List.map unB (List.take ((bytesL b).length - Int.toNat (u:Int)) (List.drop (Int.toNat (u:Int)) (bytesL b)))) (.ok (t,v)):=by unfold gsIs; rw [rest_eq,unB_bytes]; exact hs
   have hi:inInt ((u:Int) + (v:Int)):=by unfold inInt; omega
   have ell:=ints_len l
   by_cases huv:u + v = b.length
   ·have du:((u:Int) + (v:Int) != ((bytesL b).length:Int)) = false:=by simp; omega
    simp only
    rw [if_pos huv]
    by_cases h6:l.length < 6
    ·have d6:decide (((ints l).length:Int) < (6:Int)) = true:=decide_eq_true (by omega)
     rw [dqOf_short h6]
     exact rcs_of (cD_ok (.ok (l,u)) (.ok (t,v)) none none zp) (by kernel_rfl) (rq_l ⟨isB_bytes b,fitsL_bytes hb,a3,by omega,a5,all1 b,a7,a8,a9,hi,du,du,du,du,d6,d6,d6,d6,d6,trivial⟩ rfl)
    ·have d6:decide (((ints l).length:Int) < (6:Int)) = false:=decide_eq_false (by omega)
     have c5:(0:Int) ≤ (5:Int)∧(5:Int) < ((ints l).length:Int):=by omega
     have g5:(ints l)[5]? = some (D.int IntKind.i64 (List.getD l (5) (0:Int))):=ints_get (by omega)
     match l,hg,hl,a3,ell,h6,d6,c5,g5 with
     | h0 :: h1 :: h2 :: h3 :: h4 :: h5 :: y,hg,hl,a3,ell,h6,d6,c5,g5 =>
      simp only [List.length_cons] at hl ell
      have q5:List.getD (h0 :: h1 :: h2 :: h3 :: h4 :: h5 :: y) 5 (0:Int) = h5:=rfl
      by_cases hn:h5 < 0
      ·have d5:decide (List.getD (h0 :: h1 :: h2 :: h3 :: h4 :: h5 :: y) (5) (0:Int) < (0:Int)) = true:=decide_eq_true (by rw [q5]; exact hn)
       have hq:dqOf (h0 :: h1 :: h2 :: h3 :: h4 :: h5 :: y) t = none:=by simp only [dqOf]; rw [if_pos (.inl hn)]
       rw [hq]
       exact rcs_of (cD_ok (.ok (h0 :: h1 :: h2 :: h3 :: h4 :: h5 :: y,u)) (.ok (t,v)) none none zp) (by kernel_rfl) (rq_5 ⟨isB_bytes b,fitsL_bytes hb,a3,by omega,a5,all1 b,a7,a8,a9,hi,du,du,du,du,d6,d6,c5,g5,rfl,d6,d6,d6,d5,d5,d5,d5,d5,d5,d5,d5,trivial⟩ rfl)
      ·have d5:decide (List.getD (h0 :: h1 :: h2 :: h3 :: h4 :: h5 :: y) (5) (0:Int) < (0:Int)) = false:=decide_eq_false (by rw [q5]; exact hn)
       have i6:inInt (((ints (h0 :: h1 :: h2 :: h3 :: h4 :: h5 :: y)).length:Int) - (6:Int)):=by unfold inInt; omega
       by_cases hm:(y.length:Int) < h5
       ·have d7:decide (List.getD (h0 :: h1 :: h2 :: h3 :: h4 :: h5 :: y) (5) (0:Int) > ((ints (h0 :: h1 :: h2 :: h3 :: h4 :: h5 :: y)).length:Int) - (6:Int)) = true:=decide_eq_true (by rw [q5]; omega)
        have hq:dqOf (h0 :: h1 :: h2 :: h3 :: h4 :: h5 :: y) t = none:=by simp only [dqOf]; rw [if_pos (.inr hm)]
        rw [hq]
        exact rcs_of (cD_ok (.ok (h0 :: h1 :: h2 :: h3 :: h4 :: h5 :: y,u)) (.ok (t,v)) none none zp) (by kernel_rfl) (rq_6t ⟨isB_bytes b,fitsL_bytes hb,a3,by omega,a5,all1 b,a7,a8,a9,hi,du,du,du,du,d6,d6,c5,g5,rfl,d6,d6,d6,d5,d5,c5,g5,rfl,d5,d5,d5,d5,i6,d5,d5,d7,trivial⟩ rfl)
       ·have d7:decide (List.getD (h0 :: h1 :: h2 :: h3 :: h4 :: h5 :: y) (5) (0:Int) > ((ints (h0 :: h1 :: h2 :: h3 :: h4 :: h5 :: y)).length:Int) - (6:Int)) = false:=decide_eq_false (by rw [q5]; omega)
        refine rcs_of (cD_ok (.ok (h0 :: h1 :: h2 :: h3 :: h4 :: h5 :: y,u)) (.ok (t,v)) none none zp) (by kernel_rfl) (rq_6f ⟨isB_bytes b,fitsL_bytes hb,a3,by omega,a5,all1 b,a7,a8,a9,hi,du,du,du,du,d6,d6,c5,g5,rfl,d6,d6,d6,d5,d5,c5,g5,rfl,d5,d5,d5,d5,i6,d5,d5,d7,trivial⟩ ?_)
        exact Ends.cfg rfl (rr_ends (by unfold fits; omega) (by unfold fits; omega) (by omega) (by omega))
     | [],_,_,_,_,h6,_,_,_=>exact absurd (by simp) h6
     | [_],_,_,_,_,h6,_,_,_=>exact absurd (by simp) h6
     | [_,_],_,_,_,_,h6,_,_,_=>exact absurd (by simp) h6
     | [_,_,_],_,_,_,_,h6,_,_,_=>exact absurd (by simp) h6
     | [_,_,_,_],_,_,_,_,h6,_,_,_=>exact absurd (by simp) h6
     | [_,_,_,_,_],_,_,_,_,h6,_,_,_=>exact absurd (by simp) h6
   ·have du:((u:Int) + (v:Int) != ((bytesL b).length:Int)) = true:=by simp; omega
    simp only
    rw [if_neg huv]
    exact rcs_of (cD_ok (.ok (l,u)) (.ok (t,v)) none none zp) (by kernel_rfl) (rq_u ⟨isB_bytes b,fitsL_bytes hb,a3,by omega,a5,all1 b,a7,a8,a9,hi,du,du,du,du,trivial⟩ rfl)
end Go.Aev.M44
