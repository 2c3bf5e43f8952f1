/- Lemmas for the statements of this seat: an abstract machine that the model follows, and contracts of functions. Conditions: none. -/
import Derived.Test.YtakpdahnlpjooaaGreatDoorT29bld26
import Derived.Test.YtakpdahnlpjooaaGreatDoorT29sorted29
set_option linter.all false
set_option maxRecDepth 1000000
set_option maxHeartbeats 0
noncomputable section
namespace Go.Aev.R29
open Go Go.Aev Go.Aev.R
def qri:Con:={pts:=[Zv,ZK,Zu],pre:=[.nle Zw ZL],rts:=[qkL],post:=[]}
def qLr:RFn:=mF 144 qri []
def qLs:Tab:=[(140,qiR),(219,qse),(218,qad)]
theorem qLt:qp PP 144 qri:=(fe qLr qLs (qm qsd (qm qQP (qm qLl (qu)))) (by kernel_rfl) ⟨fun ρ=>by kernel_rfl,trivial⟩).ok
def qrk:Con:={pts:=[Zv,.i .i64,.i .i64,Zu],pre:=[.nle Zab ZL],rts:=[qFY],post:=[.imp (.w 14 (.u 1 17 Zf) Za) Zdd]}
def Jo:RFn:=mF 79 qrk [⟨8,[(1,ZbK),(2,Zbr),(4,Zc4),(8,ZbL),(10,.o Zef),(11,ZbS)],[Zp,ZfX],[Zv,.i .i64,.i .i64,Zu,Zu,.i .i64],[.le ZO ZL,.le Zg Zj,.le Zj ZO,Zhi,Zhj,Zhk,ZcA,.rows 920 Zd Zab ZaJ,ZaK,ZaL,Zhl,Zdd],(Zg,.w 1 ZO Zj,Zk,Za,Za,Za)⟩,⟨16,[(1,ZbK),(4,Zc4),(8,ZbL),(10,.o Zef),(12,ZbT),(13,.o Zde),(14,Zbc)],[Zp,ZfX,.box [ZfB,ZfC,.nil,Zq,.nil,.nil,.nil,Zq,Zq,Zq,Zq,Zq,.nil,.nil,.nil,.nil,.sl 3 1 Za ZO ZO true] false,Zhm],[Zv,.i .i64,.i .i64,Zu,Zu,ZH],[.le ZO ZL,.rows 2 Zj Zav ZO,ZbU,Zhi,Zhj,Zhk,ZcA,.rows 920 Zd Zab ZaJ,ZaK,ZaL,Zhl,Zdd],(Za,.w 1 Zav Za,Zk,Za,Za,Za)⟩,⟨16,[(1,ZbK),(4,Zc4),(8,ZbL),(10,.o Zef),(12,ZbT),(13,.o Zde),(14,.o (.c (.i .i64) Zs))],[Zp,ZfX,.box [ZfB,ZfC,Zhn,Zq,.nil,.nil,.nil,Zq,Zq,Zq,Zq,Zq,.nil,.nil,.nil,.nil,.sl 4 1 Za ZO ZO true] false,ZJ,Zhm],[Zv,.i .i64,.i .i64,Zu,Zu,ZH,.i .i64,.i .i64,.i .i64,ZK],[.le ZO ZL,.rows 2 Zj Zav ZO,Zho,ZfY,.le Zen Zs,Zdd],(Za,.w 1 Zav Zs,Zk,Za,Za,Za)⟩]
def qbL:Tab:=[(140,qiR),(141,qsw),(143,qsG),(142,qme),(144,qri),(145,qrh),(146,qrj)]
theorem qLA:qaT PP Jo qbL=true:=by kernel_rfl
theorem qLB:(lvS PP Jo qbL (Jo.sts.getD 0 default)).getD 0 false=true:=by kernel_rfl
theorem qLC:(lvS PP Jo qbL (Jo.sts.getD 0 default)).getD 1 false=true:=by kernel_rfl
theorem qLD:(lvS PP Jo qbL (Jo.sts.getD 0 default)).getD 2 false=true:=by kernel_rfl
theorem qLE:(lvS PP Jo qbL (Jo.sts.getD 0 default)).getD 3 false=true:=by kernel_rfl
theorem qLF:(lvS PP Jo qbL (Jo.sts.getD 0 default)).getD 4 false=true:=by kernel_rfl
theorem qLG:(lvS PP Jo qbL (Jo.sts.getD 0 default)).getD 5 false=true:=by kernel_rfl
theorem qLH:(lvS PP Jo qbL (Jo.sts.getD 0 default)).getD 6 false=true:=by kernel_rfl
theorem qLI:qy PP Jo qbL (Jo.sts.getD 0 default)=true:=qgm (n:=7) (by kernel_rfl) ⟨qLH,qLG,qLF,qLE,qLD,qLC,qLB,trivial⟩
theorem qLJ:qy PP Jo qbL (Jo.sts.getD 1 default)=true:=by kernel_rfl
theorem qLK:qy PP Jo qbL (Jo.sts.getD 2 default)=true:=by kernel_rfl
theorem qLL:qp PP 79 qrk:=(fe Jo qbL (qm qsd (qm qSd (qm qS5 (qm qyJ (qm qLt (qm qLq (qm qLz (qu)))))))) (qbC qLA ⟨qLI,qLJ,qLK,trivial⟩) (by refine⟨?_,?_,?_,?_,trivial⟩<;>intro<;>kernel_rfl)).ok
end Go.Aev.R29
end
noncomputable section
namespace Go.Aev.M44
open Go Go.Aev
abbrev PP:Program:=Go.Aev.R29.PP
def mk (po:FuncId→Bool) (sRC:FuncId→List V→Aev.Rows→Option (List Prop×V)):qw:=qpk PP po sRC
theorem qeZ {po:FuncId→Bool} {sRC:FuncId→List V→Aev.Rows→Option (List Prop×V)} (ht:qhF (mk po sRC)):COK (mk po sRC).cfg:=qDa Go.Aev.R29.YN Go.Aev.R29.mixed ht
def c0:qw:=mk (fun _=>true) (fun _ _ _=>none)
theorem Yn:COK c0.cfg:=qeZ (fun g args rows ps v h=>by cases h)
def cM:qw:=mk (fun _=>false) (fun _ _ _=>none)
theorem qt:COK cM.cfg:=qeZ (fun g args rows ps v h=>by cases h)
def orI (a b:Int):Int:=IntKind.u32.wrap (BitVec.ofInt 32 a|||BitVec.ofInt 32 b).toNat
def qF (a b:Int):Int:=IntKind.u32.wrap (BitVec.ofInt 32 a^^^BitVec.ofInt 32 b).toNat
def qA (x:Int) (s r:Nat):Int:=orI (IntKind.u32.wrap (x*2 ^ s)) (x.fdiv (2 ^ r))
end Go.Aev.M44
end
section
set_option linter.unusedVariables false
namespace Go.Aev.M44
noncomputable def qhP:List qT:=(JJ (sTo c0 (qg []) qo 300 (start c0 107 [I 0] []))).fr.todo
noncomputable def H90 (z:Int) (v:V) (rows:Aev.Rows):AS:=hd 107 qhP 27 [(3,U64 z),(4,v)] rows
noncomputable def qe1:List qT:=(JJ (sTo c0 (qg [(9,false)]) qo 300 (start c0 110 [I 0] []))).fr.todo
noncomputable def H93 (z:Int) (v:V) (rows:Aev.Rows):AS:=hd 110 qe1 31 [(3,U64 z),(4,v)] rows
def YD (l:List UInt8):V:=.sl 0 1 0 l.length l.length false
def YM (l:List UInt8):Aev.Rows:=[.live (.dat 1 (qh l) false)]
end Go.Aev.M44
namespace Go.Aev.M44
theorem qD5 {n:Int} {Q:V→Aev.Rows→Prop} (hp:qf [(0:Int)≤(1:Int),(0:Int)≤(63:Int)]) (h:qb c0 0 (hd 107 qhP 27 [(3,V.d (D.int IntKind.u64 (IntKind.wrap IntKind.u64 (↑(BitVec.toNat (BitVec.ofInt (64) (IntKind.wrap IntKind.u64 (IntKind.wrap IntKind.u64 n*(2:Int) ^ 1))^^^BitVec.ofInt (64) (IntKind.wrap IntKind.u64 (Int.fdiv n ((2:Int) ^ 63))))):Int)))),(4,V.nil)] []) Q):qb c0 0 (start c0 107 [I n] []) Q :=
 qb.turn Yn (qg [] [] [] 0 false true) qo 300 [] [3,4] (by kernel_rfl) hp h
theorem qD6 {z:Int} {Q:V→Aev.Rows→Prop} (hp:qf [decide (z>(127:Int))=true,(0:Int)≤(7:Int)]) (h:qb c0 0 (hd 107 qhP 27 [(3,V.d (D.int IntKind.u64 (Int.fdiv z ((2:Int) ^ 7)))),(4,V.sl (0) (1) (0) (1) (1) false)] [qd.live (Row.dat (1) [D.int IntKind.u8 (IntKind.wrap IntKind.u8 (↑(BitVec.toNat (BitVec.ofInt (8) (IntKind.wrap IntKind.u8 z)|||BitVec.ofInt (8) (128:Int))):Int))] false)]) Q):qb c0 0 (H90 z .nil []) Q :=
 qb.turn Yn (qg [(13,true)] [] [] 0 false true) qo 300 [1] [3,4] (by kernel_rfl) hp h
theorem qD7 {z:Int} {Q:V→Aev.Rows→Prop} (hp:qf [decide (z>(127:Int))=false]) (h:Q (V.sl (1) (1) (0) (1) (1) false) ([qd.live (Row.dat (1) [D.int IntKind.u8 (IntKind.wrap IntKind.u8 z)] false),qd.live (Row.dat (1) [D.int IntKind.u8 (IntKind.wrap IntKind.u8 z)] false)])):qb c0 0 (H90 z .nil []) Q :=
 qb.toFin Yn (qg [(13,false)] [] [] 0 false true) qo 300 (by kernel_rfl) hp h
theorem qD8 {z:Int} {l:List UInt8} {Q:V→Aev.Rows→Prop} (hp:qf [decide (z>(127:Int))=true,1=1∧1=1∧1≤1,0<1∧1≠0∧1=1∧1=1∧0+l.length≤List.length (qh l)∧¬l.length+1≤l.length∧2*(l.length+1)*1≤281474976710656∧l.length+1≤4611686018427387904,(0:Int)≤(7:Int)]) (h:qb c0 0 (hd 107 qhP 27 [(3,V.d (D.int IntKind.u64 (Int.fdiv z ((2:Int) ^ 7)))),(4,V.sl (0) (1) (0) (l.length+1) (l.length+1) false)] [qd.live (Row.dat (1) (List.take l.length (List.drop (0) (qh l))++[D.int IntKind.u8 (IntKind.wrap IntKind.u8 (↑(BitVec.toNat (BitVec.ofInt (8) (IntKind.wrap IntKind.u8 z)|||BitVec.ofInt (8) (128:Int))):Int))]) false)]) Q):qb c0 0 (H90 z (YD l) (YM l)) Q :=
 qb.turn Yn (qg [(13,true)] [] [] 1 false true) qo 300 [2] [3,4] (by kernel_rfl) hp h
theorem qvp {z:Int} {l:List UInt8} {Q:V→Aev.Rows→Prop} (hp:qf [decide (z>(127:Int))=false,1=1∧1=1∧1≤1,0<1∧1≠0∧1=1∧1=1∧0+l.length≤List.length (qh l)∧¬l.length+1≤l.length∧2*(l.length+1)*1≤281474976710656∧l.length+1≤4611686018427387904]) (h:Q (V.sl (2) (1) (0) (l.length+1) (l.length+1) false) ([qd.dead,qd.live (Row.dat (1) [D.int IntKind.u8 (IntKind.wrap IntKind.u8 z)] false),qd.live (Row.dat (1) (List.take l.length (List.drop (0) (qh l))++[D.int IntKind.u8 (IntKind.wrap IntKind.u8 z)]) false)])):qb c0 0 (H90 z (YD l) (YM l)) Q :=
 qb.toFin Yn (qg [(13,false)] [] [] 1 false true) qo 300 (by kernel_rfl) hp h
theorem qD9 {n:Int} {Q:V→Aev.Rows→Prop} (hp:qf [decide (n<(0:Int))=true,qi ((-1:Int) - n)]) (h:qb c0 0 (hd 110 qe1 31 [(3,V.d (D.int IntKind.u64 (IntKind.wrap IntKind.u64 (IntKind.wrap IntKind.u64 (IntKind.wrap IntKind.u64 ((-1:Int) - n)*(2:Int))+(1:Int))))),(4,V.nil)] []) Q):qb c0 0 (start c0 110 [I n] []) Q :=
 qb.turn Yn (qg [(9,true)] [] [] 0 false true) qo 300 [] [3,4] (by kernel_rfl) hp h
theorem qvq {n:Int} {Q:V→Aev.Rows→Prop} (hp:qf [decide (n<(0:Int))=false]) (h:qb c0 0 (hd 110 qe1 31 [(3,V.d (D.int IntKind.u64 (IntKind.wrap IntKind.u64 (IntKind.wrap IntKind.u64 n*(2:Int))))),(4,V.nil)] []) Q):qb c0 0 (start c0 110 [I n] []) Q :=
 qb.turn Yn (qg [(9,false)] [] [] 0 false true) qo 300 [] [3,4] (by kernel_rfl) hp h
theorem qEa {z:Int} {Q:V→Aev.Rows→Prop} (hp:qf [decide (z≥(128:Int))=true,IntKind.u64=IntKind.u64,(128:Int)≠(0:Int),IntKind.u64=IntKind.u64,(128:Int)≠(0:Int)]) (h:qb c0 0 (hd 110 qe1 31 [(3,V.d (D.int IntKind.u64 (IntKind.wrap IntKind.u64 (Int.tdiv z (128:Int))))),(4,V.sl (0) (1) (0) (1) (1) false)] [qd.live (Row.dat (1) [D.int IntKind.u8 (IntKind.wrap IntKind.u8 (IntKind.wrap IntKind.u8 (Int.tmod z (128:Int))+(128:Int)))] false)]) Q):qb c0 0 (H93 z .nil []) Q :=
 qb.turn Yn (qg [(16,true)] [] [] 0 false true) qo 300 [1] [3,4] (by kernel_rfl) hp h
theorem qEb {z:Int} {Q:V→Aev.Rows→Prop} (hp:qf [decide (z≥(128:Int))=false]) (h:Q (V.sl (1) (1) (0) (1) (1) false) ([qd.live (Row.dat (1) [D.int IntKind.u8 (IntKind.wrap IntKind.u8 z)] false),qd.live (Row.dat (1) [D.int IntKind.u8 (IntKind.wrap IntKind.u8 z)] false)])):qb c0 0 (H93 z .nil []) Q :=
 qb.toFin Yn (qg [(16,false)] [] [] 0 false true) qo 300 (by kernel_rfl) hp h
theorem qEc {z:Int} {l:List UInt8} {Q:V→Aev.Rows→Prop} (hp:qf [decide (z≥(128:Int))=true,IntKind.u64=IntKind.u64,(128:Int)≠(0:Int),1=1∧1=1∧1≤1,0<1∧1≠0∧1=1∧1=1∧0+l.length≤List.length (qh l)∧¬l.length+1≤l.length∧2*(l.length+1)*1≤281474976710656∧l.length+1≤4611686018427387904,IntKind.u64=IntKind.u64,(128:Int)≠(0:Int)]) (h:qb c0 0 (hd 110 qe1 31 [(3,V.d (D.int IntKind.u64 (IntKind.wrap IntKind.u64 (Int.tdiv z (128:Int))))),(4,V.sl (0) (1) (0) (l.length+1) (l.length+1) false)] [qd.live (Row.dat (1) (List.take l.length (List.drop (0) (qh l))++[D.int IntKind.u8 (IntKind.wrap IntKind.u8 (IntKind.wrap IntKind.u8 (Int.tmod z (128:Int))+(128:Int)))]) false)]) Q):qb c0 0 (H93 z (YD l) (YM l)) Q :=
 qb.turn Yn (qg [(16,true)] [] [] 1 false true) qo 300 [2] [3,4] (by kernel_rfl) hp h
theorem qvr {z:Int} {l:List UInt8} {Q:V→Aev.Rows→Prop} (hp:qf [decide (z≥(128:Int))=false,1=1∧1=1∧1≤1,0<1∧1≠0∧1=1∧1=1∧0+l.length≤List.length (qh l)∧¬l.length+1≤l.length∧2*(l.length+1)*1≤281474976710656∧l.length+1≤4611686018427387904]) (h:Q (V.sl (2) (1) (0) (l.length+1) (l.length+1) false) ([qd.dead,qd.live (Row.dat (1) [D.int IntKind.u8 (IntKind.wrap IntKind.u8 z)] false),qd.live (Row.dat (1) (List.take l.length (List.drop (0) (qh l))++[D.int IntKind.u8 (IntKind.wrap IntKind.u8 z)]) false)])):qb c0 0 (H93 z (YD l) (YM l)) Q :=
 qb.toFin Yn (qg [(16,false)] [] [] 1 false true) qo 300 (by kernel_rfl) hp h
end Go.Aev.M44
end
noncomputable section
namespace Go.Aev.M44
abbrev Bs:=List UInt8
def zz (n:Int):Nat:=if n<0 then 2*(-1 - n).toNat+1 else 2*n.toNat
def uz (z:Nat):Int:=if z % 2=1 then -1 - ((z / 2:Nat):Int)else((z / 2:Nat):Int)
theorem qpv (n:Int):uz (zz n)=n:=by
 unfold uz zz
 by_cases h:n<0
 ·rw[if_pos h];have e1:(2*(-1 - n).toNat+1) % 2=1:=by omega
  have e2:(2*(-1 - n).toNat+1) / 2=(-1 - n).toNat:=by omega
  rw[if_pos e1,e2]; omega
 ·rw[if_neg h];have e1:¬(2*n.toNat) % 2=1:=by omega
  have e2:(2*n.toNat) / 2=n.toNat:=by omega
  rw[if_neg e1,e2]; omega
theorem qEz (z:Nat):zz (uz z)=z:=by
 unfold uz zz
 by_cases h:z % 2=1
 ·rw[if_pos h,if_pos (by omega)]; omega
 ·rw[if_neg h,if_neg (by omega)]; omega
def qK (n:Int):Prop:=-9223372036854775808≤n∧n≤9223372036854775807
theorem qhQ {n:Int} (h:qK n):zz n<18446744073709551616:=by
 unfold qK at h; unfold zz; split<;>omega
theorem qEA {z:Nat} (h:z<18446744073709551616):qK (uz z):=by
 unfold qK uz; split<;>omega
def vb (z:Nat):Bs:=if h:z<128 then[UInt8.ofNat z]else UInt8.ofNat (z % 128+128)::vb (z / 128)
termination_by z
decreasing_by omega
def enc (n:Int):Bs:=vb (zz n)
def qG:Bs→Nat
 | []=>0|c::r=>if 128≤c.toNat then qG r+1 else 0
def val:Bs→Nat→Nat
 | [],_=>0|c::_,0=>c.toNat % 128|c::r,k+1=>c.toNat % 128+128*val r k
def qhR (b:Bs):Except Nat (Int×Nat) :=
 if 10≤qG b then .error 11
 else if qG b=b.length then .error 10
 else if (qG b=9∧1<(b.getD (qG b) 0).toNat)∨(0<qG b∧(b.getD (qG b) 0).toNat=0)then .error 11
 else .ok (uz (val b (qG b)),qG b+1)
theorem qpw {n:Nat} (h:n<256):(UInt8.ofNat n).toNat=n:=by simp[qVN h]
theorem qEB (b:Bs):qG b≤b.length:=by
 induction b with
 | nil=>exact qTF _|cons c r ih=>simp only[qG,qT9]; split<;>omega
theorem qpx:∀(z:Nat) (rest:Bs),qG (vb z++rest)+1=(vb z).length∧val (vb z++rest) (qG (vb z++rest))=z∧((vb z++rest).getD (qG (vb z++rest)) 0).toNat<128 ∧
  (0<qG (vb z++rest)→((vb z++rest).getD (qG (vb z++rest)) 0).toNat≠0)∧z<128 ^ (vb z).length∧(1<(vb z).length→128 ^ ((vb z).length - 1)≤z) ∧
  ((vb z++rest).getD (qG (vb z++rest)) 0).toNat*128 ^ ((vb z).length - 1)≤z:=by
 intro z
 induction z using Nat.strongRecOn with
 | _ z ih =>
  intro rest;rw[vb]
  by_cases h:z<128
  ·rw[dif_pos h];have e:(UInt8.ofNat z).toNat=z:=qpw (by omega);have hl:qG ([UInt8.ofNat z]++rest)=0:=by
    show(if 128≤(UInt8.ofNat z).toNat then qG rest+1 else 0)=0;rw[e,if_neg (by omega)]
   rw[hl];refine⟨rfl,?_,?_,fun h=>absurd h (by omega),?_,fun h=>absurd h (by simp),?_⟩
   ·show(UInt8.ofNat z).toNat % 128=z;rw[e]; omega
   ·show(UInt8.ofNat z).toNat<128;rw[e]; exact h
   ·show z<128 ^ 1;omega
   ·show(UInt8.ofNat z).toNat*128 ^ 0≤z;rw[e]; simp
  ·rw[dif_neg h];obtain⟨h1,h2,h3,h4,h5,h6,h7⟩:=ih (z / 128) (by omega) rest;have e:(UInt8.ofNat (z % 128+128)).toNat=z % 128+128:=qpw (by omega);have hl:qG (UInt8.ofNat (z % 128+128)::vb (z / 128)++rest)=qG (vb (z / 128)++rest)+1:=by
    show(if 128≤(UInt8.ofNat (z % 128+128)).toNat then qG (vb (z / 128)++rest)+1 else 0)=_;rw[e,if_pos (by omega)]
   rw[hl];have hg:(UInt8.ofNat (z % 128+128)::vb (z / 128)++rest).getD (qG (vb (z / 128)++rest)+1) 0=(vb (z / 128)++rest).getD (qG (vb (z / 128)++rest)) 0:=rfl;rw[hg];have hlen:(UInt8.ofNat (z % 128+128)::vb (z / 128)).length=(vb (z / 128)).length+1:=rfl;have hpos:1≤(vb (z / 128)).length:=by omega
   rw[hlen];have hp:128 ^ (vb (z / 128)).length=128*128 ^ ((vb (z / 128)).length - 1):=by
    conv=>lhs; rw[show(vb (z / 128)).length=((vb (z / 128)).length - 1)+1 by omega,qVq]
    exact Nat.mul_comm _ _
   refine⟨by omega,?_,h3,fun _=>?_,?_,fun _=>?_,?_⟩
   ·show(UInt8.ofNat (z % 128+128)).toNat % 128+128*val (vb (z / 128)++rest) (qG (vb (z / 128)++rest))=z;rw[e,h2]; omega
   ·by_cases h0:0<qG (vb (z / 128)++rest)
    ·exact h4 h0
    ·
     have hz:qG (vb (z / 128)++rest)=0:=by omega
     rw[hz]at h2 ⊢;have hne:vb (z / 128)≠[]:=by intro h; rw[h]at h1; simp at h1
     cases hv:vb (z / 128)with
     | nil=>exact absurd hv hne|cons c r =>
      rw[hv]at h2;have h2':c.toNat % 128=z / 128:=h2;show c.toNat≠0;omega
   ·rw[qVq];omega
   ·simp only[Nat.add_sub_cancel]
    by_cases h0:1<(vb (z / 128)).length
    ·have:=h6 h0;rw[hp];omega
    ·have:(vb (z / 128)).length=1:=by omega
     rw[this]; omega
   ·simp only[Nat.add_sub_cancel];rw[hp];have h8:=h7;generalize ((vb (z / 128)++rest).getD (qG (vb (z / 128)++rest)) 0).toNat=c at h8 ⊢;generalize 128 ^ ((vb (z / 128)).length - 1)=p at h8 ⊢;have:c*(128*p)=128*(c*p):=by rw[←qWi,Nat.mul_comm c 128,qWi]
    rw[this];omega
theorem qpy {z:Nat} (h:z<18446744073709551616):(vb z).length≤10:=by
 obtain⟨h1,_,_,_,_,h6,_⟩:=qpx z [];rcases qTQ 10 (vb z).length with hl|hl
 ·have:=h6 (by omega);have hp:128 ^ 10≤128 ^ ((vb z).length - 1):=Nat.pow_le_pow_right (by omega) (by omega);have:(128:Nat) ^ 10=1180591620717411303424:=by decide
  omega
 ·exact hl
theorem qEC {n:Int} (h:qK n) (rest:Bs):qhR (enc n++rest)=.ok (n,(enc n).length):=by
 obtain⟨h1,h2,h3,h4,h5,h6,h7⟩:=qpx (zz n) rest;have hl:=qpy (qhQ h);have hz:=qhQ h;unfold qhR enc;rw[if_neg (by omega),if_neg (by simp; omega),if_neg,h2,qpv,h1]
 rintro(⟨h8,h9⟩|⟨h8,h9⟩)
 ·have e:(vb (zz n)).length - 1=9:=by omega
  rw[e]at h7;have:(128:Nat) ^ 9=9223372036854775808:=by decide
  rw[this]at h7;omega
 ·exact h4 h8 h9
theorem qvu:∀(b:Bs),qG b<b.length→(0<qG b→(b.getD (qG b) 0).toNat≠0)→b.take (qG b+1)=vb (val b (qG b))
 | [],h,_=>absurd h (by simp)
 | c::r,h,h0=>by
  by_cases hc:128≤c.toNat
  ·have hl:qG (c::r)=qG r+1:=by simp only[qG]; rw[if_pos hc]
   rw[hl]at h h0 ⊢;have h1:qG r<r.length:=by simpa using h
   have h2:(r.getD (qG r) 0).toNat≠0:=h0 (by omega);have ih:=qvu r h1 (fun _=>h2);show c::r.take (qG r+1)=vb (c.toNat % 128+128*val r (qG r));have hv:0<val r (qG r):=by
    have:∀(k:Nat) (r:Bs),(r.getD k 0).toNat≠0→(r.getD k 0).toNat<128→0<val r k:=by
     intro k
     induction k with
     | zero =>
      intro r hr hr2
      cases r with
      | nil=>simp at hr|cons d r =>
       show 0<d.toNat % 128;have h3:d.toNat≠0:=hr;have h4:d.toNat<128:=hr2;omega
     | succ k ih =>
      intro r hr hr2
      cases r with
      | nil=>simp at hr|cons d r =>
       show 0<d.toNat % 128+128*val r k;have:=ih r hr hr2;omega
    refine this _ _ h2 ?_;have last:∀(r:Bs),qG r<r.length→(r.getD (qG r) 0).toNat<128:=by
     intro r
     induction r with
     | nil=>intro h; exact absurd h (by simp)
     | cons d r ih =>
      intro h
      by_cases hd:128≤d.toNat
      ·have hl2:qG (d::r)=qG r+1:=by simp only[qG]; rw[if_pos hd]
       rw[hl2]at h ⊢;exact ih (by simpa using h)
      ·have hl2:qG (d::r)=0:=by simp only[qG]; rw[if_neg hd]
       rw[hl2];show d.toNat<128;omega
    exact last r h1
   rw[vb,dif_neg (by omega),ih];have e1:(c.toNat % 128+128*val r (qG r)) % 128+128=c.toNat:=by
    have:=c.toNat_lt; omega
   have e2:(c.toNat % 128+128*val r (qG r)) / 128=val r (qG r):=by omega
   rw[e1,e2];simp
  ·have hl:qG (c::r)=0:=by simp only[qG]; rw[if_neg hc]
   rw[hl];show[c]=vb (c.toNat % 128);rw[vb,dif_pos (by omega)];have:c.toNat % 128=c.toNat:=by omega
   rw[this]; simp
theorem qvv:∀(k:Nat) (b:Bs),val b k<128 ^ (k+1)
 | 0,[]=>by simp[val]
 | 0,c::r=>by show c.toNat % 128<128 ^ 1; omega
 | k+1,[]=>by simp only[val]; exact Nat.pow_pos (by omega)
 | k+1,c::r=>by
  have:=qvv k r;show c.toNat % 128+128*val r k<128 ^ (k+1+1);rw[qVq 128 (k+1)];omega
theorem qvw:∀(k:Nat) (b:Bs),(b.getD k 0).toNat≤1→val b k<2*128 ^ k
 | 0,[],_=>by simp[val]
 | 0,c::r,h=>by
  have h:c.toNat≤1:=h;show c.toNat % 128<2*128 ^ 0;omega
 | k+1,[],_=>by simp only[val]; have:0<128 ^ (k+1):=Nat.pow_pos (by omega); omega
 | k+1,c::r,h=>by
  have:=qvw k r h;show c.toNat % 128+128*val r k<2*128 ^ (k+1);rw[qVq 128 k];omega
theorem qED {b:Bs} {n:Int} {u:Nat} (h:qhR b=.ok (n,u)):qK n∧1≤u∧u≤b.length∧b.take u=enc n:=by
 unfold qhR at h;split at h
 ·cases h
 split at h
 ·cases h
 split at h
 ·cases h
 rename_i h1 h2 h3;injection h with h
 injection h with h4 h5
 have hle:=qEB b;have hlt:qG b<b.length:=by omega
 have hz:val b (qG b)<18446744073709551616:=by
  by_cases h9:qG b=9
  ·have h10:(b.getD (qG b) 0).toNat≤1:=by
    rcases qTQ 1 (b.getD (qG b) 0).toNat with h|h
    ·exact absurd (.inl ⟨h9,h⟩) h3
    ·exact h
   have:=qvw (qG b) b h10;rw[h9]at this ⊢;have e:(128:Nat) ^ 9=9223372036854775808:=by decide
   omega
  ·have:=qvv (qG b) b;have hp:128 ^ (qG b+1)≤128 ^ 9:=Nat.pow_le_pow_right (by omega) (by omega);have e:(128:Nat) ^ 9=9223372036854775808:=by decide
   omega
 have hb:=qvu b hlt (fun h0 h=>h3 (.inr ⟨h0,h⟩));subst h4; subst h5;refine⟨qEA hz,by omega,by omega,?_⟩;rw[hb,enc,qEz]
theorem qhS (n:Int):1≤(enc n).length:=by
 obtain⟨h1,_⟩:=qpx (zz n) [];unfold enc; omega
def qhT (b:Bs) (least:Nat):Except Nat (Nat×Nat) :=
 match qhR b with
 | .error e=>.error e|.ok (n,u)=>if n<0 then .error 11 else if (b.length - u) / least<n.toNat then .error 10 else .ok (n.toNat,u)
def qpz (b:Bs):Except Nat (Bs×Nat) :=
 match qhT b 1 with
 | .error e=>.error e|.ok (n,u)=>.ok ((b.drop u).take n,u+n)
def qH (s:Bs):Bs:=enc s.length++s
def JX (l:List Int):Bs:=enc l.length++l.flatMap enc
def qbA (l:List Bs):Bs:=enc l.length++l.flatMap qH
def short (n:Nat):Prop:=n≤4611686018427387904
theorem qEE {n:Nat} (h:short n) (rest:Bs) (hr:n≤rest.length):qhT (enc n++rest) 1=.ok (n,(enc n).length):=by
 unfold qhT short at *
 rw[qEC (by unfold qK; omega)];simp only;rw[if_neg (by omega),if_neg (by simp; omega)];simp
theorem qEF {b:Bs} {n u:Nat} (h:qhT b 1=.ok (n,u)):1≤u∧u+n≤b.length∧b.take u=enc n:=by
 unfold qhT at h;split at h
 ·cases h
 ·rename_i m u' hg;obtain⟨h1,h2,h3,h4⟩:=qED hg;split at h
  ·cases h
  split at h
  ·cases h
  rename_i h5 h6;injection h with h
  injection h with h7 h8
  subst h8;have e:(n:Int)=m:=by omega
  refine⟨h2,?_,by rw[h4,e]⟩;rw[Nat.div_one]at h6;omega
structure Fit {α:Type} (one:Bs→Except Nat (α×Nat)) (wr:α→Bs) (ok:α→Prop):Prop where
 read:∀x rest,ok x→one (wr x++rest)=.ok (x,(wr x).length)
 back:∀b x u,short b.length→one b=.ok (x,u)→u≤b.length∧b.take u=wr x∧ok x
 pos:∀x,1≤(wr x).length
theorem qhU {α:Type} {wr:α→Bs} (hp:∀x,1≤(wr x).length):∀l:List α,l.length≤(l.flatMap wr).length
 | []=>qTF _|x::l=>by
  have:=qhU hp l;have:=hp x;simp only[qT9,qUq,qTN]; omega
theorem qEG:Fit qpz qH (fun s=>short s.length) :=
 ⟨fun x rest h=>by
  unfold qpz qH;rw[qTW,qEE h _ (by simp)];simp,fun b x u hb h=>by
  unfold qpz at h;split at h
  ·cases h
  ·rename_i n a hl;obtain⟨h1,h2,h3⟩:=qEF hl;injection h with h
   injection h with e1 e2
   subst e1; subst e2;have hlen:((b.drop a).take n).length=n:=by simp; omega
   refine⟨h2,?_,?_⟩
   ·unfold qH;rw[hlen,List.take_add,h3]
   ·show short _;rw[hlen];unfold short at *
    omega,fun s=>by have:=qhS s.length; simp[qH]; omega⟩
end Go.Aev.M44
end
noncomputable section
namespace Go.Aev.M44
open Go Go.Aev
theorem w64 (n:Int):IntKind.u64.wrap n=n % 18446744073709551616:=by simp[IntKind.wrap,IntKind.bits,IntKind.signed]
theorem w8 (n:Int):IntKind.u8.wrap n=n % 256:=by simp[IntKind.wrap,IntKind.bits,IntKind.signed]
theorem q5 (l:Bs):(qh l).length=l.length:=by unfold qh; simp
theorem qhO (a b:Bs):qh (a++b)=qh a++qh b:=by unfold qh; simp
theorem qga {l:Bs}:List.take l.length (List.drop 0 (qh l))=qh l:=by
 rw[qTY,←q5 l,qUM]
theorem qvc {l:Bs} {r:Nat} {rows:Aev.Rows} {ro:Bool} (h:qr rows r=some (.dat 1 (qh l) ro)):qcw (qr rows) (.sl r 1 0 l.length l.length false)=some (LB l):=by
 have:qbX (qr rows) (.sl r 1 0 l.length l.length false)=some (.list (qh l),[(r,.live (.dat 1 (qh l) true))]):=by
  simp only[qbX,h];rw[if_pos ⟨trivial,by rw[q5]; omega⟩,qTY,←q5 l,qUM]
 simp only[qcw,qfU,qfT,this]
def YL (l:Bs) (v:V) (rows:Aev.Rows):Prop:=∃r,v=.sl r 1 0 l.length l.length false∧qr rows r=some (.dat 1 (qh l) false)
theorem YL.conv {l:Bs} {v:V} {rows:Aev.Rows} (h:YL l v rows):qcw (qr rows) v=some (LB l):=by
 obtain⟨r,rfl,h2⟩:=h;exact qvc h2
def qbd (l:Bs) (v:V) (rows:Aev.Rows):Prop:=v=YD l∧rows=YM l
theorem YL.new {P:Program} {g:FuncId} {args:List V} {l:Bs} (h:qS P g 0 args [] (YL l)):qS P g 0 args [] (qbd l):=by
 refine h.sel fun v rows' hb=>?_
 obtain⟨r,rfl,h2⟩:=hb;refine⟨[r],YD l,YM l,rfl,?_,?_,rfl,rfl⟩
 ·simp only[qQ,h2,qJ]; rfl
 ·simp only[qC,Yk,YD];simp
theorem qdZ {n:Nat} (h:n<256):Yr (UInt8.ofNat n)=.int .u8 (n:Int):=by unfold Yr; rw[qpw h]
theorem qDZ:∀b:_root_.Fin 256,((BitVec.ofInt 8 (b.val:Int))|||(BitVec.ofInt 8 128)).toNat=b.val % 128+128:=by decide
theorem qvd (z:Nat):IntKind.u8.wrap (((BitVec.ofInt 8 (IntKind.u8.wrap (z:Int)))|||(BitVec.ofInt 8 128)).toNat:Int)=((z % 128+128:Nat):Int):=by
 rw[w8 (z:Int)];have e:((z:Int) % 256)=(((⟨z % 256,by omega⟩:_root_.Fin 256).val:Nat):Int):=by show(z:Int) % 256=((z % 256:Nat):Int); omega
 rw[e,qDZ];show IntKind.u8.wrap ((z % 256 % 128+128:Nat):Int)=_;rw[w8]; omega
theorem qve (z:Nat):IntKind.u8.wrap (IntKind.u8.wrap ((z:Int).tmod 128)+128)=((z % 128+128:Nat):Int):=by
 rw[w8,w8,qWq (by omega)]; omega
theorem qps {z:Nat} (h:z<128):IntKind.u8.wrap (z:Int)=(z:Int):=by rw[w8]; omega
theorem qvf (z:Nat):(z:Int).fdiv ((2:Int) ^ 7)=((z / 128:Nat):Int):=by
 rw[qWo _ (by decide)]; rfl
theorem qvg {z:Nat} (h:z<18446744073709551616):IntKind.u64.wrap ((z:Int).tdiv 128)=((z / 128:Nat):Int):=by
 rw[qWr (by omega),w64]; omega
theorem qD0 {n:Int} (h:qK n):IntKind.u64.wrap (((BitVec.ofInt 64 (IntKind.u64.wrap (IntKind.u64.wrap n*(2:Int) ^ 1)))^^^(BitVec.ofInt 64 (IntKind.u64.wrap (n.fdiv ((2:Int) ^ 63))))).toNat:Int)=(zz n:Int):=by
 unfold qK at h;rw[qWo _ (by decide)];have e63:((2:Int) ^ 63)=9223372036854775808:=by decide
 rw[e63,w64 n]
 by_cases hn:n<0
 ·have e1:n / 9223372036854775808=-1:=by omega
  rw[e1];have e2:BitVec.ofInt 64 (IntKind.u64.wrap (-1))=BitVec.allOnes 64:=by rw[w64]; decide
  rw[e2,BitVec.xor_allOnes,BitVec.toNat_not];have e3:(BitVec.ofInt 64 (IntKind.u64.wrap (n % 18446744073709551616*2 ^ 1))).toNat=(2*n+18446744073709551616).toNat:=by
   rw[BitVec.toNat_ofInt,w64]
   congr 1
   have:(((2 ^ 64:Nat)):Int)=18446744073709551616:=by decide
   omega
  rw[e3,w64];unfold zz;rw[if_pos hn];have:(2:Nat) ^ 64=18446744073709551616:=by decide
  omega
 ·have e1:n / 9223372036854775808=0:=by omega
  rw[e1];have e2:BitVec.ofInt 64 (IntKind.u64.wrap 0)=0#64:=by rw[w64]; decide
  rw[e2,BitVec.xor_zero];have e3:(BitVec.ofInt 64 (IntKind.u64.wrap (n % 18446744073709551616*2 ^ 1))).toNat=(2*n).toNat:=by
   rw[BitVec.toNat_ofInt,w64]
   congr 1
   have:(((2 ^ 64:Nat)):Int)=18446744073709551616:=by decide
   omega
  rw[e3,w64];unfold zz;rw[if_neg hn];omega
theorem qvh {n:Int} (h:qK n) (hn:n<0):IntKind.u64.wrap (IntKind.u64.wrap (IntKind.u64.wrap (-1 - n)*2)+1)=(zz n:Int):=by
 unfold qK at h; unfold zz; rw[if_pos hn,w64,w64,w64]; omega
theorem qvi {n:Int} (h:qK n) (hn:¬n<0):IntKind.u64.wrap (IntKind.u64.wrap n*2)=(zz n:Int):=by
 unfold qK at h; unfold zz; rw[if_neg hn,w64,w64]; omega
theorem qvj {l:Bs} {n:Nat} (h:n<256) {x:Int} (e:x=(n:Int)):List.take l.length (List.drop 0 (qh l))++[D.int .u8 x]=qh (l++[UInt8.ofNat n]):=by
 rw[qga,qhO,e,←qdZ h]; rfl
theorem qky {l:Bs} {z:Nat} (h:z<128) {r0 r1:qd}:YL (l++[UInt8.ofNat z]) (.sl 2 1 0 (l.length+1) (l.length+1) false) [r0,r1,.live (.dat 1 (List.take l.length (List.drop 0 (qh l))++[D.int .u8 (IntKind.u8.wrap (z:Int))]) false)]:=by
 rw[qvj (n:=z) (by omega) (qps h)];exact⟨2,by rw[qTN]; rfl,rfl⟩
theorem qvk {l:Bs} {n:Nat} (h:n<256) {x:Int} (e:x=(n:Int)) {P:V→Aev.Rows→Prop} (hp:P (YD (l++[UInt8.ofNat n])) (YM (l++[UInt8.ofNat n]))) :
  P (.sl 0 1 0 (l.length+1) (l.length+1) false) [.live (.dat 1 (List.take l.length (List.drop 0 (qh l))++[D.int .u8 x]) false)]:=by
 rw[qvj h e];unfold YD YM at hp;rw[qTN]at hp;exact hp
theorem qD1:∀(k z:Nat) (l:Bs),z<128 ^ (k+1)→l.length+k≤1000→qb c0 0 (H90 (z:Int) (YD l) (YM l)) (YL (l++vb z)):=by
 intro k
 induction k with
 | zero =>
  intro z l hz hl;have hz':z<128:=by simpa using hz
  rw[vb,dif_pos hz'];refine qvp ⟨decide_eq_false (by omega),⟨rfl,rfl,by omega⟩,⟨by omega,by omega,rfl,rfl,by rw[q5]; omega,by omega,by omega,by omega⟩,trivial⟩ (qky hz')
 | succ k ih =>
  intro z l hz hl
  by_cases hz':z<128
  ·rw[vb,dif_pos hz'];refine qvp ⟨decide_eq_false (by omega),⟨rfl,rfl,by omega⟩,⟨by omega,by omega,rfl,rfl,by rw[q5]; omega,by omega,by omega,by omega⟩,trivial⟩ (qky hz')
  ·rw[vb,dif_neg hz'];refine qD8 ⟨decide_eq_true (by omega),⟨rfl,rfl,by omega⟩,⟨by omega,by omega,rfl,rfl,by rw[q5]; omega,by omega,by omega,by omega⟩,by omega,trivial⟩ ?_;rw[qvf];refine qvk (P:=fun v rows=>qb c0 0 (hd 107 qhP 27 [(3,U64 ((z / 128:Nat):Int)),(4,v)] rows) _) (n:=z % 128+128) (by omega) (qvd z) ?_;have:=ih (z / 128) (l++[UInt8.ofNat (z % 128+128)]) (by rw[qVq]at hz; omega) (by simp; omega);rw[qTW]at this;exact this
theorem qvl {n:Int} (h:qK n):qb c0 0 (start c0 107 [I n] []) (YL (enc n)):=by
 refine qD5 ⟨by omega,by omega,trivial⟩ ?_;rw[qD0 h];have hz:=qhQ h;unfold enc
 by_cases hz':zz n<128
 ·rw[vb,dif_pos hz'];refine qD7 (z:=(zz n:Int)) ⟨decide_eq_false (by omega),trivial⟩ ?_;rw[qps hz',←qdZ (n:=zz n) (by omega)];exact⟨1,rfl,rfl⟩
 ·rw[vb,dif_neg hz'];refine qD6 (z:=(zz n:Int)) ⟨decide_eq_true (by omega),by omega,trivial⟩ ?_;rw[qvf,qvd,←qdZ (n:=zz n % 128+128) (by omega)];exact qD1 20 (zz n / 128) [UInt8.ofNat (zz n % 128+128)] (by
   have:(128:Nat) ^ 21=178405961588244985132285746181186892047843328:=by decide
   omega) (by simp)
theorem qD2 {n:Int} (h:qK n):RCs PP 107 [I n] [] (LB (enc n)):=qY Yn (by kernel_rfl) ((qvl h).mono fun _ _ h=>h.conv)
theorem qvm {n:Int} (h:qK n):qS PP 107 0 [I n] [] (qbd (enc n)):=YL.new (qa9 Yn (by kernel_rfl) (qvl h))
theorem qD3:∀(k z:Nat) (l:Bs),z<18446744073709551616→z<128 ^ (k+1)→l.length+k≤1000→qb c0 0 (H93 (z:Int) (YD l) (YM l)) (YL (l++vb z)):=by
 intro k
 induction k with
 | zero =>
  intro z l h64 hz hl;have hz':z<128:=by simpa using hz
  rw[vb,dif_pos hz'];refine qvr ⟨decide_eq_false (by omega),⟨rfl,rfl,by omega⟩,⟨by omega,by omega,rfl,rfl,by rw[q5]; omega,by omega,by omega,by omega⟩,trivial⟩ (qky hz')
 | succ k ih =>
  intro z l h64 hz hl
  by_cases hz':z<128
  ·rw[vb,dif_pos hz'];refine qvr ⟨decide_eq_false (by omega),⟨rfl,rfl,by omega⟩,⟨by omega,by omega,rfl,rfl,by rw[q5]; omega,by omega,by omega,by omega⟩,trivial⟩ (qky hz')
  ·rw[vb,dif_neg hz'];refine qEc ⟨decide_eq_true (by omega),rfl,by decide,⟨rfl,rfl,by omega⟩,⟨by omega,by omega,rfl,rfl,by rw[q5]; omega,by omega,by omega,by omega⟩,rfl,by decide,trivial⟩ ?_;rw[qvg h64];refine qvk (P:=fun v rows=>qb c0 0 (hd 110 qe1 31 [(3,U64 ((z / 128:Nat):Int)),(4,v)] rows) _) (n:=z % 128+128) (by omega) (qve z) ?_;have:=ih (z / 128) (l++[UInt8.ofNat (z % 128+128)]) (by omega) (by rw[qVq]at hz; omega) (by simp; omega);rw[qTW]at this;exact this
theorem qkz {z:Nat} (hz:z<18446744073709551616):qb c0 0 (H93 (z:Int) .nil []) (YL (vb z)):=by
 by_cases hz':z<128
 ·rw[vb,dif_pos hz'];refine qEb (z:=(z:Int)) ⟨decide_eq_false (by omega),trivial⟩ ?_;rw[qps hz',←qdZ (n:=z) (by omega)];exact⟨1,rfl,rfl⟩
 ·rw[vb,dif_neg hz'];refine qEa (z:=(z:Int)) ⟨decide_eq_true (by omega),rfl,by decide,rfl,by decide,trivial⟩ ?_;rw[qvg hz,qve,←qdZ (n:=z % 128+128) (by omega)];exact qD3 20 (z / 128) [UInt8.ofNat (z % 128+128)] (by omega) (by
   have:(128:Nat) ^ 21=178405961588244985132285746181186892047843328:=by decide
   omega) (by simp)
theorem qvn {n:Int} (h:qK n):qb c0 0 (start c0 110 [I n] []) (YL (enc n)):=by
 have hz:=qhQ h
 by_cases hn:n<0
 ·refine qD9 ⟨decide_eq_true hn,by unfold qK at h; unfold qi; omega,trivial⟩ ?_;rw[qvh h hn];exact qkz hz
 ·refine qvq ⟨decide_eq_false hn,trivial⟩ ?_;rw[qvi h hn];exact qkz hz
theorem qD4 {n:Int} (h:qK n):RCs PP 110 [I n] [] (LB (enc n)):=qY Yn (by kernel_rfl) ((qvn h).mono fun _ _ h=>h.conv)
theorem qvo {n:Int} (h:qK n):qS PP 110 0 [I n] [] (qbd (enc n)):=YL.new (qa9 Yn (by kernel_rfl) (qvn h))
def qdk (s:Bs):D:=.str ⟨s.toArray⟩
def qpA (g:FuncId) (args:List V) (_rows:Aev.Rows):Option (List Prop×V) :=
 match g,args with
 | 107,[.d (.int .i64 n)]=>some ([qK n],LB (enc n))|110,[.d (.int .i64 n)]=>some ([qK n],LB (enc n))|_,_=>none
def cG:qw:=mk (fun _=>true) qpA
theorem qFM {g:FuncId} {args:List V} {rows:Aev.Rows} {ps:List Prop} {v:V} (h:qpA g args rows=some (ps,v)) (hp:qf ps):RCs PP g args rows v:=by
 unfold qpA at h;split at h
 ·cases h;exact(qD2 hp.1).of_lists (.cons (.data _) .nil)
 ·cases h;exact(qD4 hp.1).of_lists (.cons (.data _) .nil)
 ·cases h
theorem qpB (b:Bs):(List.all (qh b) fun e=>List.length (D.cells e)==1)=true:=by
 rw[qTI];intro e he;obtain⟨c,_,rfl⟩:=qTV.1 he;rfl
theorem qFN:COK cG.cfg:=qeZ fun g args rows ps v h hp=>qFM h hp
end Go.Aev.M44
end
section
namespace Go.Aev.M44
open Go Go.Aev
def qaM (t:Nat) (s:AS):Bool:=match s.fr.todo with
 | .it (.inRegion ops (_::j::_))::_=>match ops[j]? with
  | some o=>match o.dst with
   | some d=>Nat.beq d t|none=>false
  | none=>false
 | _=>false
def qbe (s:AS) (v:V) (rows:Aev.Rows):AS:=(qkq s v rows).getD s
theorem qb.callB {c:qw} (hc:COK c.cfg) {k:Nat} {s:AS} {Q:V→Aev.Rows→Prop} {g:FuncId} {ar:List V} {l:Bs} (hat:qbx c.cfg s=some (g,ar,[],[]))
  (hd:qS c.P g 0 ar [] (qbd l)) (hb:(qkq s (YD l) (YM l)).isSome=true) (h:qb c k (qbe s (YD l) (YM l)) Q):qb c k s Q:=by
 refine qb.callN hc hat hd ?_
 rintro v rows ⟨rfl,rfl⟩
 obtain⟨s',hs⟩:=qVx.1 hb;unfold qbe at h;rw[hs]at h;exact⟨s',hs,h⟩
end Go.Aev.M44
namespace Go.Aev.M44
open Go Go.Aev
def qay (l:List Bs):List D:=l.map qdk
def elS (l:List Bs):Nat→D:=fun i=>qdk (l.getD i [])
noncomputable def cW:qw:=cG
theorem qgc:COK cW.cfg:=qFN
end Go.Aev.M44
end
section
set_option linter.unusedVariables false
namespace Go.Aev.M44
open Go Go.Aev
noncomputable def C89 (l:List Int):AS:=JJ (sTo cW (qg []) (qaM 10) 300 (start cW 106 [L l,.fn 107 []] []))
noncomputable def qkB:List qT:=(JJ (sTo cW (qg []) qo 300 (qbe (C89 []) (YD [0]) (YM [0])))).fr.todo
noncomputable def H89 (l:List Int) (o:List UInt8) (k:Int):AS:=hd 106 qkB 24 [(1,.fn 107 []),(5,YD o),(11,L l),(12,I (qn l).length),(13,I k)] (YM o)
end Go.Aev.M44
namespace Go.Aev.M44
theorem qEg {l:List Int} {o:List UInt8} {Q:V→Aev.Rows→Prop} (hp:qf []) (h:qb cW 0 (hd 106 qkB 24 [(1,V.fn (107) []),(5,V.sl (0) (1) (0) o.length o.length false),(11,V.d (D.list (qn l))),(12,V.d (D.int IntKind.i64 (↑(List.length (qn l)):Int))),(13,V.d (D.int IntKind.i64 (0:Int)))] [qd.live (Row.dat (1) (qh o) false)]) Q):qb cW 0 (qbe (C89 l) (YD o) (YM o)) Q :=
 qb.turn qgc (qg [] [] [] 0 false true) qo 140 [0] [1,5,11,12,13] (by kernel_rfl) hp h
theorem qEh {l:List Int} {o:List UInt8} {k:Int} {Q:V→Aev.Rows→Prop} (hp:qf [decide (k<(↑(List.length (qn l)):Int))=true,(0:Int)≤k∧k<(↑(List.length (qn l)):Int),(qn l)[Int.toNat k]?=some (D.int IntKind.i64 (List.getD l (Int.toNat k) (0:Int))),1=1,qK (List.getD l (Int.toNat k) (0:Int)),(List.all (qh (enc (List.getD l (Int.toNat k) (0:Int)))) fun e=>List.length (D.cells e)==1)=true,0<1∧List.length (qh (enc (List.getD l (Int.toNat k) (0:Int))))≠0∧1=1∧1=1∧0+o.length≤List.length (qh o)∧¬o.length+List.length (qh (enc (List.getD l (Int.toNat k) (0:Int))))≤o.length∧2*(o.length+List.length (qh (enc (List.getD l (Int.toNat k) (0:Int)))))*1≤281474976710656∧o.length+List.length (qh (enc (List.getD l (Int.toNat k) (0:Int))))≤4611686018427387904,qi (k+(1:Int))]) (h:qb cW 0 (hd 106 qkB 24 [(1,V.fn (107) []),(5,V.sl (0) (1) (0) (o.length+List.length (qh (enc (List.getD l (Int.toNat k) (0:Int))))) (o.length+List.length (qh (enc (List.getD l (Int.toNat k) (0:Int))))) false),(11,V.d (D.list (qn l))),(12,V.d (D.int IntKind.i64 (↑(List.length (qn l)):Int))),(13,V.d (D.int IntKind.i64 (k+(1:Int))))] [qd.live (Row.dat (1) (List.take o.length (List.drop (0) (qh o))++qh (enc (List.getD l (Int.toNat k) (0:Int)))) false)]) Q):qb cW 0 (H89 l o k) Q :=
  qb.turn qgc (qg [(14,true)] [(11,elI (l))] [] 1 false true) qo 140 [1] [1,
 5,
 11,
 12,
 13] (by kernel_rfl) hp h
theorem qEi {l:List Int} {o:List UInt8} {k:Int} {Q:V→Aev.Rows→Prop} (hp:qf [decide (k<(↑(List.length (qn l)):Int))=false]) (h:Q (V.sl (0) (1) (0) o.length o.length false) ([qd.live (Row.dat (1) (qh o) false)])):qb cW 0 (H89 l o k) Q :=
 qb.toFin qgc (qg [(14,false)] [] [] 0 false true) qo 140 (by kernel_rfl) hp h
end Go.Aev.M44
end
section
set_option linter.unusedVariables false
namespace Go.Aev.M44
open Go Go.Aev
noncomputable def C92 (s:List UInt8):AS:=JJ (sTo c0 (qg []) (qaM 5) 300 (start c0 104 [.d (qdk s)] []))
noncomputable def C94 (s:List UInt8):AS:=JJ (sTo c0 (qg []) (qaM 5) 300 (start c0 191 [.d (qdk s)] []))
end Go.Aev.M44
namespace Go.Aev.M44
theorem qEK {s l:List UInt8} {Q:V→Aev.Rows→Prop} (hp:qf [1=1,0<1∧List.length (q8 {data:=List.toArray s})≠0∧1=1∧1=1∧0+l.length≤List.length (qh l)∧¬l.length+List.length (q8 {data:=List.toArray s})≤l.length∧2*(l.length+List.length (q8 {data:=List.toArray s}))*1≤281474976710656∧l.length+List.length (q8 {data:=List.toArray s})≤4611686018427387904]) (h:Q (V.sl (1) (1) (0) (l.length+List.length (q8 {data:=List.toArray s})) (l.length+List.length (q8 {data:=List.toArray s})) false) ([qd.dead,qd.live (Row.dat (1) (List.take l.length (List.drop (0) (qh l))++q8 {data:=List.toArray s}) false)])):qb c0 0 (qbe (C92 s) (YD l) (YM l)) Q :=
 qb.toFin Yn (qg [] [] [] 1 false true) qo 140 (by kernel_rfl) hp h
theorem qEL {s l:List UInt8} {Q:V→Aev.Rows→Prop} (hp:qf [1=1,0<1∧List.length (q8 {data:=List.toArray s})≠0∧1=1∧1=1∧0+l.length≤List.length (qh l)∧¬l.length+List.length (q8 {data:=List.toArray s})≤l.length∧2*(l.length+List.length (q8 {data:=List.toArray s}))*1≤281474976710656∧l.length+List.length (q8 {data:=List.toArray s})≤4611686018427387904]) (h:Q (V.sl (1) (1) (0) (l.length+List.length (q8 {data:=List.toArray s})) (l.length+List.length (q8 {data:=List.toArray s})) false) ([qd.dead,qd.live (Row.dat (1) (List.take l.length (List.drop (0) (qh l))++q8 {data:=List.toArray s}) false)])):qb c0 0 (qbe (C94 s) (YD l) (YM l)) Q :=
 qb.toFin Yn (qg [] [] [] 1 false true) qo 140 (by kernel_rfl) hp h
end Go.Aev.M44
end
section
set_option linter.unusedVariables false
namespace Go.Aev.M44
open Go Go.Aev
end Go.Aev.M44
namespace Go.Aev.M44
theorem qEM {l:List UInt8} {Q:V→Aev.Rows→Prop} (hp:qf []) (h:Q (V.sl (0) (1) (0) l.length l.length false) ([qd.live (Row.dat (1) (qh l) false)])):qb c0 0 (qbe (C92 []) (YD l) (YM l)) Q :=
 qb.toFin Yn (qg [] [] [] 0 false true) qo 140 (by kernel_rfl) hp h
theorem qEN {l:List UInt8} {Q:V→Aev.Rows→Prop} (hp:qf []) (h:Q (V.sl (0) (1) (0) l.length l.length false) ([qd.live (Row.dat (1) (qh l) false)])):qb c0 0 (qbe (C94 []) (YD l) (YM l)) Q :=
 qb.toFin Yn (qg [] [] [] 0 false true) qo 140 (by kernel_rfl) hp h
end Go.Aev.M44
end
noncomputable section
namespace Go.Aev.M44
open Go Go.Aev
def Jt (n:Nat):Prop:=n≤70368744177664
theorem qdi (s:Bs):q8 ⟨s.toArray⟩=qh s:=by unfold q8; simp
theorem qvz (s:Bs):ByteArray.size ⟨s.toArray⟩=s.length:=by simp[ByteArray.size]
theorem qvA {l s:Bs} {r0:qd}:YL (l++s) (.sl 1 1 0 (l.length+(q8 ⟨s.toArray⟩).length) (l.length+(q8 ⟨s.toArray⟩).length) false) [r0,.live (.dat 1 (List.take l.length (List.drop 0 (qh l))++q8 ⟨s.toArray⟩) false)]:=by
 rw[qga,qdi,←qhO,q5];exact⟨1,by rw[qTN],rfl⟩
theorem qkD {s:Bs} (h:Jt s.length):qK (s.length:Int):=by unfold Jt at h; unfold qK; omega
theorem qdj {n:Int} (h:qK n):(enc n).length≤10:=qpy (qhQ h)
theorem qEI {s:Bs} (h:Jt s.length):qb c0 0 (start c0 104 [.d (qdk s)] []) (YL (qH s)):=by
 refine qb.to Yn (qg []) (qaM 5) 300 (ps:=[]) (s':=C92 s) (by kernel_rfl) trivial ?_;refine qb.callB Yn (g:=107) (ar:=[I (ByteArray.size ⟨s.toArray⟩:Nat)]) (l:=enc s.length) (by kernel_rfl) (by rw[qvz]; exact qvm (qkD h)) (by kernel_rfl) ?_;have he:=qdj (qkD h);have hq:=qhS (s.length:Int);unfold Jt at h
 cases s with
 | nil =>
  refine qEM (by trivial) ?_;show YL (enc _++[]) _ _;rw[qT7];exact⟨0,rfl,rfl⟩
 | cons c r =>
  refine qEK ⟨rfl,⟨by omega,by rw[qdi,q5]; simp,rfl,rfl,by rw[q5]; omega,by rw[qdi,q5]; simp,by rw[qdi,q5]; omega,by rw[qdi,q5]; omega⟩,trivial⟩ ?_;exact qvA
theorem qEJ {s:Bs} (h:Jt s.length):qb c0 0 (start c0 191 [.d (qdk s)] []) (YL (qH s)):=by
 refine qb.to Yn (qg []) (qaM 5) 300 (ps:=[]) (s':=C94 s) (by kernel_rfl) trivial ?_;refine qb.callB Yn (g:=110) (ar:=[I (ByteArray.size ⟨s.toArray⟩:Nat)]) (l:=enc s.length) (by kernel_rfl) (by rw[qvz]; exact qvo (qkD h)) (by kernel_rfl) ?_;have he:=qdj (qkD h);have hq:=qhS (s.length:Int);unfold Jt at h
 cases s with
 | nil =>
  refine qEN (by trivial) ?_;show YL (enc _++[]) _ _;rw[qT7];exact⟨0,rfl,rfl⟩
 | cons c r =>
  refine qEL ⟨rfl,⟨by omega,by rw[qdi,q5]; simp,rfl,rfl,by rw[q5]; omega,by rw[qdi,q5]; simp,by rw[qdi,q5]; omega,by rw[qdi,q5]; omega⟩,trivial⟩ ?_;exact qvA
theorem qvB {s:Bs} (h:Jt s.length):RCs PP 104 [.d (qdk s)] [] (LB (qH s)):=qY Yn (by kernel_rfl) ((qEI h).mono fun _ _ h=>h.conv)
theorem qvC {s:Bs} (h:Jt s.length):RCs PP 191 [.d (qdk s)] [] (LB (qH s)):=qY Yn (by kernel_rfl) ((qEJ h).mono fun _ _ h=>h.conv)
theorem qpt {o s:Bs} {P:V→Aev.Rows→Prop} (hp:P (YD (o++s)) (YM (o++s))) :
  P (.sl 0 1 0 (o.length+(qh s).length) (o.length+(qh s).length) false) [.live (.dat 1 (List.take o.length (List.drop 0 (qh o))++qh s) false)]:=by
 rw[qga,←qhO,q5];unfold YD YM at hp;rw[qTN]at hp;exact hp
theorem qkA {α:Type} {l:List α} {k:Nat} (h:k<l.length) (d:α):l.drop k=l.getD k d::l.drop (k+1):=by
 rw[qV7 h]; simp[List.getD,h]
theorem qvs {α:Type} {l:List α} {k:Nat} (h:k<l.length) (d:α):l.getD k d∈l:=by
 simp[List.getD,h]
def fits (n:Nat):Prop:=n≤1073741824
theorem qEd {l:List Int} (hl:fits l.length) (ha:∀x∈l,qK x):∀(n k:Nat) (o:Bs),k+n=l.length→o.length+10*n≤21474836480→qb cW 0 (H89 l o (k:Nat)) (YL (o++(l.drop k).flatMap enc)):=by
 intro n;unfold fits at hl
 induction n with
 | zero =>
  intro k o hk ho;rw[qVf (by omega),qV6,qT7];exact qEi ⟨by rw[Jl]; exact decide_eq_false (by omega),trivial⟩ ⟨0,rfl,rfl⟩
 | succ n ih =>
  intro k o hk ho;have hx:=ha _ (qvs (show k<l.length by omega) 0);have he:=qdj hx;have hp:=qhS (l.getD k 0);refine qEh ⟨by rw[Jl]; exact decide_eq_true (by omega),by rw[Jl]; omega,qko (by omega),rfl,hx,qpB _,⟨by omega,by rw[q5,qTK]; omega,rfl,rfl,by rw[q5]; omega,by rw[q5,qTK]; omega,by rw[q5,qTK]; omega,by rw[q5,qTK]; omega⟩,by unfold qi; omega,trivial⟩ ?_;rw[qTK];refine qpt (P:=fun v rows=>qb cW 0 (hd 106 qkB 24 [(1,V.fn 107 []),(5,v),(11,V.d (D.list (qn l))),(12,V.d (D.int IntKind.i64 ((qn l).length:Int))),(13,V.d (D.int IntKind.i64 ((k:Int)+1)))] rows) _) ?_;have:=ih (k+1) (o++enc (l.getD k 0)) (by omega) (by rw[qTN]; omega);rw[qTW]at this;rw[qkA (show k<l.length by omega) 0,qUq];exact this
theorem qEe {l:List Int} (hl:fits l.length) (ha:∀x∈l,qK x):qb cW 0 (start cW 106 [L l,.fn 107 []] []) (YL (JX l)):=by
 refine qb.to qgc (qg []) (qaM 10) 300 (ps:=[]) (s':=C89 l) (by kernel_rfl) trivial ?_;have hl':=hl;unfold fits at hl';have h64:qK (l.length:Int):=by unfold qK; omega
 have he:=qdj h64;refine qb.callB qgc (g:=107) (ar:=[I ((qn l).length:Nat)]) (l:=enc l.length) (by kernel_rfl) (by rw[Jl]; exact qvm h64) (by kernel_rfl) ?_;refine qEg trivial ?_;exact qEd hl ha l.length 0 (enc l.length) (by omega) (by omega)
theorem qEf {l:List Int} (hl:fits l.length) (ha:∀x∈l,qK x):qS PP 106 0 [L l,.fn 107 []] [] (qbd (JX l)):=YL.new (qa9 qgc (by kernel_rfl) (qEe hl ha))
def zzT (g:FuncId) (args:List V) (_rows:Aev.Rows):Option (List Prop×V) :=
 match g,args with
 | 104,[.d (.str s)]=>some ([Jt s.data.toList.length],LB (qH s.data.toList))|191,[.d (.str s)]=>some ([Jt s.data.toList.length],LB (qH s.data.toList))|_,_=>none
def cB:qw:=mk (fun _=>true) zzT
theorem zzU {g:FuncId} {args:List V} {rows:Aev.Rows} {ps:List Prop} {v:V} (h:zzT g args rows=some (ps,v)) (hp:qf ps):RCs PP g args rows v:=by
 unfold zzT at h;split at h
 ·rename_i s;cases h;exact(qvB (s:=s.data.toList) hp.1).of_lists (.cons (.data _) .nil)
 ·rename_i s;cases h;exact(qvC (s:=s.data.toList) hp.1).of_lists (.cons (.data _) .nil)
 ·cases h
theorem qgd:COK cB.cfg:=qeZ fun g args rows ps v h hp=>zzU h hp
theorem qkG (l:List Bs):(qay l).length=l.length:=by simp[qay]
theorem qFO {l:List Bs} {i:Nat} (h:i<l.length):(qay l)[i]?=some (qdk (l.getD i [])):=by simp[qay,h]
abbrev LS (l:List Bs):V:=.d (.list (qay l))
end Go.Aev.M44
end
section
set_option linter.unusedVariables false
namespace Go.Aev.M44
open Go Go.Aev
noncomputable def C35 (l:List Bs):AS:=JJ (sTo cB (qg []) (qaM 7) 300 (start cB 188 [LS l] []))
noncomputable def qkF:List qT:=(JJ (sTo cB (qg []) qo 300 (qbe (C35 []) (YD [0]) (YM [0])))).fr.todo
noncomputable def H35 (l:List Bs) (o:List UInt8) (k:Int):AS:=hd 188 qkF 22 [(0,LS l),(3,YD o),(4,I k)] (YM o)
end Go.Aev.M44
namespace Go.Aev.M44
theorem qER {l:List Bs} {o:List UInt8} {Q:V→Aev.Rows→Prop} (hp:qf []) (h:qb cB 0 (hd 188 qkF 22 [(0,V.d (D.list (qay l))),(3,V.sl (0) (1) (0) o.length o.length false),(4,V.d (D.int IntKind.i64 (0:Int)))] [qd.live (Row.dat (1) (qh o) false)]) Q):qb cB 0 (qbe (C35 l) (YD o) (YM o)) Q :=
 qb.turn qgd (qg [] [] [] 0 false true) qo 140 [0] [0,3,4] (by kernel_rfl) hp h
theorem qES {l:List Bs} {o:List UInt8} {k:Int} {Q:V→Aev.Rows→Prop} (hp:qf [decide (k<(↑(List.length (qay l)):Int))=true,(0:Int)≤k∧k<(↑(List.length (qay l)):Int),(qay l)[Int.toNat k]?=some (elS l (Int.toNat k)),1=1,Jt (List.length (Array.toList (ByteArray.data {data:=List.toArray (List.getD l (Int.toNat k) [])}))),(List.all (qh (qH (Array.toList (ByteArray.data {data:=List.toArray (List.getD l (Int.toNat k) [])})))) fun e=>List.length (D.cells e)==1)=true,0<1∧List.length (qh (qH (Array.toList (ByteArray.data {data:=List.toArray (List.getD l (Int.toNat k) [])}))))≠0∧1=1∧1=1∧0+o.length≤List.length (qh o)∧¬o.length+List.length (qh (qH (Array.toList (ByteArray.data {data:=List.toArray (List.getD l (Int.toNat k) [])}))))≤o.length∧2*(o.length+List.length (qh (qH (Array.toList (ByteArray.data {data:=List.toArray (List.getD l (Int.toNat k) [])})))))*1≤281474976710656∧o.length+List.length (qh (qH (Array.toList (ByteArray.data {data:=List.toArray (List.getD l (Int.toNat k) [])}))))≤4611686018427387904,qi (k+(1:Int))]) (h:qb cB 0 (hd 188 qkF 22 [(0,V.d (D.list (qay l))),(3,V.sl (0) (1) (0) (o.length+List.length (qh (qH (Array.toList (ByteArray.data {data:=List.toArray (List.getD l (Int.toNat k) [])}))))) (o.length+List.length (qh (qH (Array.toList (ByteArray.data {data:=List.toArray (List.getD l (Int.toNat k) [])}))))) false),(4,V.d (D.int IntKind.i64 (k+(1:Int))))] [qd.live (Row.dat (1) (List.take o.length (List.drop (0) (qh o))++qh (qH (Array.toList (ByteArray.data {data:=List.toArray (List.getD l (Int.toNat k) [])})))) false)]) Q):qb cB 0 (H35 l o k) Q :=
 qb.turn qgd (qg [(11,true)] [(15,elS (l))] [] 1 false true) qo 140 [1] [0,3,4] (by kernel_rfl) hp h
theorem qET {l:List Bs} {o:List UInt8} {k:Int} {Q:V→Aev.Rows→Prop} (hp:qf [decide (k<(↑(List.length (qay l)):Int))=false]) (h:Q (V.sl (0) (1) (0) o.length o.length false) ([qd.live (Row.dat (1) (qh o) false)])):qb cB 0 (H35 l o k) Q :=
 qb.toFin qgd (qg [(11,false)] [] [] 0 false true) qo 140 (by kernel_rfl) hp h
end Go.Aev.M44
end
noncomputable section
namespace Go.Aev.M44
open Go Go.Aev Go.Aev.R29
def kA (f:FuncId→Option (List V→V)):qw:=mk (fun _=>true) (qeF PP f)
theorem YC (f:FuncId→Option (List V→V)):COK (kA f).cfg:=qeZ (fun g args rows ps v h hp=>qnw h hp)
def ww8 (a:Nat→Int):List D:=[.int .u32 (a 0),.int .u32 (a 1),.int .u32 (a 2),.int .u32 (a 3),.int .u32 (a 4),.int .u32 (a 5),.int .u32 (a 6),.int .u32 (a 7)]
def qdg (b:Nat→Int):List D:=(List.range 64).map fun i=>.int .u8 (b i)
def stm (a b:Nat→Int) (n:Int):D:=.agg (ww8 a++(qdg b++[.int .u64 n]))
def upd (b:Nat→Int) (n m:Nat) (x:Nat→UInt8) (i:Nat):Int:=match Nat.ble n i,Nat.ble (n+m) i with
 | true,false=>((x (i - n)).toNat:Int)|_,_=>b i
def txt (m:Nat) (x:Nat→UInt8):D:=.str ⟨⟨(List.range m).map x⟩⟩
def iv0 (i:Nat):Int:=match i with
 | 0=>1779033703|1=>3144134277|2=>1013904242|3=>2773480762|4=>1359893119|5=>2600822924|6=>528734635|7=>1541459225|_=>0
theorem quZ:RCs PP 102 [] [] (.d (stm iv0 (fun _=>0) 0)):=qP qt (by kernel_rfl) (qb.fin' qt (qg []) (fun _=>false) 400 (ps:=[]) (qs:=[]) (by kernel_rfl) trivial trivial)
def qaw (n m:Nat):Prop:=∀(a b:Nat→Int) (x:Nat→UInt8),RCs PP 103 [.d (stm a b n),.d (txt m x)] [] (.d (stm a (upd b n m x) (n+m)))
def Jm (c:Nat→Int) (g:FuncId):Option (List V→V):=match Nat.beq g 189 with
 | true=>some fun _=>.d (.agg (ww8 c))
 | false=>none
abbrev hA:qB:=qg [] [] [] 0 false true
def pA (z:Int) (l:List Prop):List Prop:=[IntKind.u64=IntKind.u64,(64:Int)≠(0:Int),1=1,1=1∧1=1∧72≤73,qi z]++l
theorem qba (z:Int) (h1:-9223372036854775808≤z) (h2:z≤9223372036854775807):qf (pA z []):=⟨rfl,by decide,rfl,⟨rfl,rfl,by decide⟩,⟨h1,h2⟩,trivial⟩
theorem qb1 {p:Prop} (h:p):qf (pA 64 [p]):=⟨rfl,by decide,rfl,⟨rfl,rfl,by decide⟩,⟨by decide,by decide⟩,h,trivial⟩
def qbb (n m:Nat):Prop:=∀(a b:Nat→Int) (x:Nat→UInt8) (c:Nat→Int),RCs PP 189 [.d (.agg (ww8 a)),.d (.list (qdg (upd b n m x)))] [] (.d (.agg (ww8 c)))→RCs PP 103 [.d (stm a b n),.d (txt m x)] [] (.d (stm c (upd b n m x) (n+m)))
theorem qDd:qaw 0 1:=fun a b x =>
 qP qt (by kernel_rfl) (qb.fin' qt hA (fun _=>false) 400 (qs:=[]) (by kernel_rfl) (qba 1 (by decide) (by decide)) trivial)
theorem qDe:qaw 1 17:=fun a b x =>
 qP qt (by kernel_rfl) (qb.fin' qt hA (fun _=>false) 400 (qs:=[]) (by kernel_rfl) (qba 18 (by decide) (by decide)) trivial)
theorem qDf:qaw 18 17:=fun a b x =>
 qP qt (by kernel_rfl) (qb.fin' qt hA (fun _=>false) 400 (qs:=[]) (by kernel_rfl) (qba 35 (by decide) (by decide)) trivial)
theorem qDg:qaw 1 4:=fun a b x =>
 qP qt (by kernel_rfl) (qb.fin' qt hA (fun _=>false) 400 (qs:=[]) (by kernel_rfl) (qba 5 (by decide) (by decide)) trivial)
theorem qDh:qaw 1 5:=fun a b x =>
 qP qt (by kernel_rfl) (qb.fin' qt hA (fun _=>false) 400 (qs:=[]) (by kernel_rfl) (qba 6 (by decide) (by decide)) trivial)
theorem qDi:qaw 1 6:=fun a b x =>
 qP qt (by kernel_rfl) (qb.fin' qt hA (fun _=>false) 400 (qs:=[]) (by kernel_rfl) (qba 7 (by decide) (by decide)) trivial)
theorem qDj:qaw 1 7:=fun a b x =>
 qP qt (by kernel_rfl) (qb.fin' qt hA (fun _=>false) 400 (qs:=[]) (by kernel_rfl) (qba 8 (by decide) (by decide)) trivial)
theorem qDk:qaw 1 8:=fun a b x =>
 qP qt (by kernel_rfl) (qb.fin' qt hA (fun _=>false) 400 (qs:=[]) (by kernel_rfl) (qba 9 (by decide) (by decide)) trivial)
theorem qDl:qaw 1 9:=fun a b x =>
 qP qt (by kernel_rfl) (qb.fin' qt hA (fun _=>false) 400 (qs:=[]) (by kernel_rfl) (qba 10 (by decide) (by decide)) trivial)
theorem qDm:qaw 1 10:=fun a b x =>
 qP qt (by kernel_rfl) (qb.fin' qt hA (fun _=>false) 400 (qs:=[]) (by kernel_rfl) (qba 11 (by decide) (by decide)) trivial)
theorem qDn:qaw 1 11:=fun a b x =>
 qP qt (by kernel_rfl) (qb.fin' qt hA (fun _=>false) 400 (qs:=[]) (by kernel_rfl) (qba 12 (by decide) (by decide)) trivial)
theorem qDo:qaw 1 12:=fun a b x =>
 qP qt (by kernel_rfl) (qb.fin' qt hA (fun _=>false) 400 (qs:=[]) (by kernel_rfl) (qba 13 (by decide) (by decide)) trivial)
theorem qDp:qaw 1 13:=fun a b x =>
 qP qt (by kernel_rfl) (qb.fin' qt hA (fun _=>false) 400 (qs:=[]) (by kernel_rfl) (qba 14 (by decide) (by decide)) trivial)
theorem qDq:qbb 35 29:=fun a b x c h =>
 qP (YC (Jm c)) (by kernel_rfl) (qb.fin' (YC (Jm c)) hA (fun _=>false) 400 (qs:=[]) (by kernel_rfl) (qb1 h) trivial)
theorem qDr:qbb 5 59:=fun a b x c h =>
 qP (YC (Jm c)) (by kernel_rfl) (qb.fin' (YC (Jm c)) hA (fun _=>false) 400 (qs:=[]) (by kernel_rfl) (qb1 h) trivial)
theorem qDs:qbb 6 58:=fun a b x c h =>
 qP (YC (Jm c)) (by kernel_rfl) (qb.fin' (YC (Jm c)) hA (fun _=>false) 400 (qs:=[]) (by kernel_rfl) (qb1 h) trivial)
theorem qDt:qbb 7 57:=fun a b x c h =>
 qP (YC (Jm c)) (by kernel_rfl) (qb.fin' (YC (Jm c)) hA (fun _=>false) 400 (qs:=[]) (by kernel_rfl) (qb1 h) trivial)
theorem qDu:qbb 8 56:=fun a b x c h =>
 qP (YC (Jm c)) (by kernel_rfl) (qb.fin' (YC (Jm c)) hA (fun _=>false) 400 (qs:=[]) (by kernel_rfl) (qb1 h) trivial)
theorem qDv:qbb 9 55:=fun a b x c h =>
 qP (YC (Jm c)) (by kernel_rfl) (qb.fin' (YC (Jm c)) hA (fun _=>false) 400 (qs:=[]) (by kernel_rfl) (qb1 h) trivial)
theorem qDw:qbb 10 54:=fun a b x c h =>
 qP (YC (Jm c)) (by kernel_rfl) (qb.fin' (YC (Jm c)) hA (fun _=>false) 400 (qs:=[]) (by kernel_rfl) (qb1 h) trivial)
theorem qDx:qbb 11 53:=fun a b x c h =>
 qP (YC (Jm c)) (by kernel_rfl) (qb.fin' (YC (Jm c)) hA (fun _=>false) 400 (qs:=[]) (by kernel_rfl) (qb1 h) trivial)
theorem qDy:qbb 12 52:=fun a b x c h =>
 qP (YC (Jm c)) (by kernel_rfl) (qb.fin' (YC (Jm c)) hA (fun _=>false) 400 (qs:=[]) (by kernel_rfl) (qb1 h) trivial)
theorem qDz:qbb 13 51:=fun a b x c h =>
 qP (YC (Jm c)) (by kernel_rfl) (qb.fin' (YC (Jm c)) hA (fun _=>false) 400 (qs:=[]) (by kernel_rfl) (qb1 h) trivial)
theorem qDA:qbb 14 50:=fun a b x c h =>
 qP (YC (Jm c)) (by kernel_rfl) (qb.fin' (YC (Jm c)) hA (fun _=>false) 400 (qs:=[]) (by kernel_rfl) (qb1 h) trivial)
def cU (f:FuncId→Option (List V→V)):qw:=mk (fun _=>true) (qhK PP f)
theorem qpm (f:FuncId→Option (List V→V)):COK (cU f).cfg:=qeZ (fun _ _ _ _ _ h hp=>quY h hp)
def qu5 (g:FuncId):Option (List V→V):=match Nat.beq g 294,Nat.beq g 295 with
 | true,_=>some fun args=>match args with
  | [.d (.int _ a),.d (.int _ b)]=>B (decide (a<b))|_=>.nil
 | _,true=>some fun _=>B false
 | _,_=>none
def J9:qw:=cU qu5
theorem qe0:COK J9.cfg:=qpm qu5
def qpn:List qT:=(JJ (sTo J9 (qg [] [] [] 0 false true) qo 300 (start J9 209 [L [],I 0] []))).fr.todo
def qdY (l:List Int) (x n a b:Int):AS:=hd 209 qpn 54 [(0,L l),(1,I x),(6,I n),(7,I a),(8,I b)] []
def Y3 (a b:Int):Int:=IntKind.wrap IntKind.i64 (Int.fdiv (IntKind.wrap IntKind.u64 (a+b)) ((2:Int) ^ 1))
theorem ls_ {x y:Int} {Q:V→Aev.Rows→Prop} (hp:qf [(x != x)=false,(x != x)=false,(x != x)=false,(x != x)=false,false=false,false=false,false=false,false=false]) (h:Q (V.d (D.bool (decide (x<y)))) ([])):qb cM 0 (start cM 294 [I x,I y] []) Q :=
 qb.toFin qt (qg [(7,false),(12,false)] [] [] 0 false true) (fun _=>false) 300 (by kernel_rfl) hp h
theorem nn_ {x:Int} {Q:V→Aev.Rows→Prop} (hp:qf []) (h:Q (V.d (D.bool (x != x))) ([])):qb cM 0 (start cM 295 [I x] []) Q :=
 qb.toFin qt (qg [] [] [] 0 false true) (fun _=>false) 300 (by kernel_rfl) hp h
theorem qDB {l:List Int} {x n a b:Int} {Q:V→Aev.Rows→Prop} (hp:qf [decide (a<b)=true,qi (a+b),(0:Int)≤(1:Int),(0:Int)≤Y3 a b∧Y3 a b<(↑(List.length (qn l)):Int),(qn l)[Int.toNat (Y3 a b)]?=some (D.int IntKind.i64 (List.getD l (Int.toNat (Y3 a b)) (0:Int))),1=1,RCs PP (294) [V.d (D.int IntKind.i64 (List.getD l (Int.toNat (Y3 a b)) (0:Int))),V.d (D.int IntKind.i64 x)] [] (V.d (D.bool (decide (List.getD l (Int.toNat (Y3 a b)) (0:Int)<x)))),decide (List.getD l (Int.toNat (Y3 a b)) (0:Int)<x)=true,qi (Y3 a b+(1:Int))]) (h:qb J9 0 (hd 209 qpn 54 [(0,V.d (D.list (qn l))),(1,V.d (D.int IntKind.i64 x)),(6,V.d (D.int IntKind.i64 n)),(7,V.d (D.int IntKind.i64 (Y3 a b+(1:Int)))),(8,V.d (D.int IntKind.i64 b))] []) Q):qb J9 0 (qdY l x n a b) Q :=
 qb.turn qe0 (qg [(15,true),(27,true)] [(22,elI (l))] [] 0 false true) qo 300 [] [0,1,6,7,8] (by kernel_rfl) hp h
theorem qDC {l:List Int} {x n a b:Int} {Q:V→Aev.Rows→Prop} (hp:qf [decide (a<b)=true,qi (a+b),(0:Int)≤(1:Int),(0:Int)≤Y3 a b∧Y3 a b<(↑(List.length (qn l)):Int),(qn l)[Int.toNat (Y3 a b)]?=some (D.int IntKind.i64 (List.getD l (Int.toNat (Y3 a b)) (0:Int))),1=1,RCs PP (294) [V.d (D.int IntKind.i64 (List.getD l (Int.toNat (Y3 a b)) (0:Int))),V.d (D.int IntKind.i64 x)] [] (V.d (D.bool (decide (List.getD l (Int.toNat (Y3 a b)) (0:Int)<x)))),decide (List.getD l (Int.toNat (Y3 a b)) (0:Int)<x)=false]) (h:qb J9 0 (hd 209 qpn 54 [(0,V.d (D.list (qn l))),(1,V.d (D.int IntKind.i64 x)),(6,V.d (D.int IntKind.i64 n)),(7,V.d (D.int IntKind.i64 a)),(8,V.d (D.int IntKind.i64 (Y3 a b)))] []) Q):qb J9 0 (qdY l x n a b) Q :=
 qb.turn qe0 (qg [(15,true),(27,false)] [(22,elI (l))] [] 0 false true) qo 300 [] [0,1,6,7,8] (by kernel_rfl) hp h
theorem qDD {l:List Int} {x n a b:Int} {Q:V→Aev.Rows→Prop} (hp:qf [decide (a<b)=false,decide (a<n)=true,decide (a<n)=true,decide (a<n)=true,(0:Int)≤a∧a<(↑(List.length (qn l)):Int),(qn l)[Int.toNat a]?=some (D.int IntKind.i64 (List.getD l (Int.toNat a) (0:Int))),1=1,decide (a<n)=true,decide (a<n)=true,decide (a<n)=true,decide (a<n)=true,(List.getD l (Int.toNat a) (0:Int)==x)=true,(List.getD l (Int.toNat a) (0:Int)==x)=true,(List.getD l (Int.toNat a) (0:Int)==x)=true,(List.getD l (Int.toNat a) (0:Int)==x)=true,(List.getD l (Int.toNat a) (0:Int)==x)=true,(List.getD l (Int.toNat a) (0:Int)==x)=true,(List.getD l (Int.toNat a) (0:Int)==x)=true,decide (a<n)=true,(List.getD l (Int.toNat a) (0:Int)==x)=true,decide (a<n)=true]) (h:Q (V.tup [V.d (D.int IntKind.i64 a),V.d (D.bool true)]) ([])):qb J9 0 (qdY l x n a b) Q :=
 qb.toFin qe0 (qg [(15,false),(35,true),(42,true)] [(36,elI (l))] [] 0 false true) qo 300 (by kernel_rfl) hp h
theorem qDE {l:List Int} {x n a b:Int} {Q:V→Aev.Rows→Prop} (hp:qf [decide (a<b)=false,decide (a<n)=true,decide (a<n)=true,decide (a<n)=true,(0:Int)≤a∧a<(↑(List.length (qn l)):Int),(qn l)[Int.toNat a]?=some (D.int IntKind.i64 (List.getD l (Int.toNat a) (0:Int))),1=1,decide (a<n)=true,decide (a<n)=true,decide (a<n)=true,decide (a<n)=true,(List.getD l (Int.toNat a) (0:Int)==x)=false,(List.getD l (Int.toNat a) (0:Int)==x)=false,(List.getD l (Int.toNat a) (0:Int)==x)=false,(0:Int)≤a∧a<(↑(List.length (qn l)):Int),(qn l)[Int.toNat a]?=some (D.int IntKind.i64 (List.getD l (Int.toNat a) (0:Int))),1=1,(List.getD l (Int.toNat a) (0:Int)==x)=false,(List.getD l (Int.toNat a) (0:Int)==x)=false,RCs PP (295) [V.d (D.int IntKind.i64 (List.getD l (Int.toNat a) (0:Int)))] [] (V.d (D.bool false)),(List.getD l (Int.toNat a) (0:Int)==x)=false,(List.getD l (Int.toNat a) (0:Int)==x)=false,decide (a<n)=true,(List.getD l (Int.toNat a) (0:Int)==x)=false,decide (a<n)=true]) (h:Q (V.tup [V.d (D.int IntKind.i64 a),V.d (D.bool false)]) ([])):qb J9 0 (qdY l x n a b) Q :=
 qb.toFin qe0 (qg [(15,false),(35,true),(42,false)] [(36,elI (l)),(43,elI (l))] [] 0 false true) qo 300 (by kernel_rfl) hp h
theorem qDF {l:List Int} {x n a b:Int} {Q:V→Aev.Rows→Prop} (hp:qf [decide (a<b)=false,decide (a<n)=false,decide (a<n)=false,decide (a<n)=false,decide (a<n)=false,decide (a<n)=false,decide (a<n)=false,decide (a<n)=false,decide (a<n)=false,decide (a<n)=false]) (h:Q (V.tup [V.d (D.int IntKind.i64 a),V.d (D.bool false)]) ([])):qb J9 0 (qdY l x n a b) Q :=
 qb.toFin qe0 (qg [(15,false),(35,false)] [] [] 0 false true) qo 300 (by kernel_rfl) hp h
theorem qDG {l:List Int} {x:Int} {Q:V→Aev.Rows→Prop} (h:qb J9 0 (qdY l x (↑(List.length (qn l)):Int) 0 (↑(List.length (qn l)):Int)) Q):qb J9 0 (start J9 209 [L l,I x] []) Q :=
 qb.turn qe0 (qg [] [] [] 0 false true) qo 300 [] [0,1,6,7,8] (ps:=[]) (by kernel_rfl) trivial h
theorem qu0 (x y:Int):RCs PP 294 [I x,I y] [] (B (decide (x<y))) :=
 qY qt (by kernel_rfl) (ls_ ⟨bne_self_eq_false _,bne_self_eq_false _,bne_self_eq_false _,bne_self_eq_false _,rfl,rfl,rfl,rfl,trivial⟩ rfl)
theorem qDH (x:Int):RCs PP 295 [I x] [] (B false) :=
 qY qt (by kernel_rfl) (nn_ trivial (by rw[bne_self_eq_false]; rfl))
theorem qDI {a b:Nat} (h:a<b) (hb:b≤1000000):Y3 (a:Int) (b:Int)=(((a+b) / 2:Nat):Int):=by
 unfold Y3;have e1:IntKind.wrap IntKind.u64 ((a:Int)+(b:Int))=((a+b:Nat):Int):=by rw[w64]; omega
 have e2:Int.fdiv ((a+b:Nat):Int) ((2:Int) ^ 1)=(((a+b) / 2:Nat):Int):=by
  rw[show((2:Int) ^ 1)=((2:Nat):Int) from rfl,qWo _ (by omega)];omega
 rw[e1,e2];exact qf4 (by unfold qi; omega)
structure BsI (l:List Int) (x:Int) (a b:Nat):Prop where
 ab:a≤b
 bl:b≤l.length
 lo:∀i,i<a→l.getD i 0<x
 hi:∀i,b≤i→i<l.length→x≤l.getD i 0
def asc (l:List Int):Prop:=∀i j,i<j→j<l.length→l.getD i 0<l.getD j 0
def qah (l:List Int) (x:Int):List Int:=l.filter fun y=>decide (y<x)
def qax (l:List Int) (x:Int):List Int:=l.filter fun y=>!decide (y<x)
def qbc (l:List Int) (x:Int):Nat:=(qah l x).length
def qhN (l:List Int) (x:Int):Bool:=decide (qbc l x<l.length)&&(l.getD (qbc l x) 0==x)
theorem qu1 {l:List Int} {a:Nat} {y:Int} (h:y∈l.take a):∃i,i<a∧l.getD i 0=y:=by
 obtain⟨i,hi,rfl⟩:=List.mem_iff_getElem.1 h;rw[qTU]at hi;refine⟨i,by omega,?_⟩;rw[List.getElem_take,List.getD_eq_getElem?_getD,qTE (by omega)]; rfl
theorem qu2 {l:List Int} {a:Nat} {y:Int} (h:y∈l.drop a):∃i,a≤i∧i<l.length∧l.getD i 0=y:=by
 obtain⟨i,hi,rfl⟩:=List.mem_iff_getElem.1 h;rw[qT8]at hi;refine⟨a+i,by omega,by omega,?_⟩;rw[List.getElem_drop,List.getD_eq_getElem?_getD,qTE (by omega)]; rfl
theorem BsI.low {l:List Int} {x:Int} {a:Nat} (h:BsI l x a a):qah l x=l.take a:=by
 unfold qah
 conv=>lhs; rw[←qUw a l]
 rw[qV4,qVc.2,qWp.2,qT7]
 ·intro y hy;obtain⟨i,h1,h2,rfl⟩:=qu2 hy;have:=h.hi i h1 h2;have e:decide (l.getD i 0<x)=false:=decide_eq_false (by omega);rw[e]; decide
 ·intro y hy;obtain⟨i,h1,rfl⟩:=qu1 hy;exact decide_eq_true (h.lo i h1)
theorem BsI.high {l:List Int} {x:Int} {a:Nat} (h:BsI l x a a):qax l x=l.drop a:=by
 unfold qax
 conv=>lhs; rw[←qUw a l]
 rw[qV4,qWp.2,qVc.2,qUG]
 ·intro y hy;obtain⟨i,h1,h2,rfl⟩:=qu2 hy;have:=h.hi i h1 h2;have e:decide (l.getD i 0<x)=false:=decide_eq_false (by omega);rw[e]; decide
 ·intro y hy;obtain⟨i,h1,rfl⟩:=qu1 hy;have e:decide (l.getD i 0<x)=true:=decide_eq_true (h.lo i h1);rw[e]; decide
theorem BsI.cnt {l:List Int} {x:Int} {a:Nat} (h:BsI l x a a):qbc l x=a:=by
 have:=h.bl;unfold qbc;rw[h.low,qTU]; omega
def BsR (x:Int) (l:List Int) (v:V) (_:Aev.Rows):Prop:=v=.tup [I (qbc l x),B (qhN l x)]∧∃a,BsI l x a a
theorem qu3 {l:List Int} {x:Int} {a:Nat} (hl:l.length≤1000) (h:BsI l x a a):qb J9 0 (qdY l x (↑(List.length (qn l)):Int) a a) (BsR x l):=by
 have hd:decide ((a:Int)<(a:Int))=false:=decide_eq_false (by omega)
 by_cases h1:a<l.length
 ·have e:decide ((a:Int)<(↑(List.length (qn l)):Int))=true:=by rw[Jl]; exact decide_eq_true (by omega)
  have g:(0:Int)≤a∧(a:Int)<(↑(List.length (qn l)):Int):=by rw[Jl]; omega
  have e2:(qn l)[Int.toNat (a:Int)]?=some (D.int IntKind.i64 (List.getD l (Int.toNat (a:Int)) (0:Int))):=by rw[qTK]; exact qko (by omega)
  cases hx:(List.getD l (Int.toNat (a:Int)) (0:Int)==x)with
  | true=>exact qDD ⟨hd,e,e,e,g,e2,rfl,e,e,e,e,hx,hx,hx,hx,hx,hx,hx,e,hx,e,trivial⟩ ⟨by unfold qhN; rw[h.cnt,decide_eq_true h1]; rw[qTK]at hx; rw[hx]; rfl,a,h⟩
  | false=>exact qDE ⟨hd,e,e,e,g,e2,rfl,e,e,e,e,hx,hx,hx,g,e2,rfl,hx,hx,qDH _,hx,hx,e,hx,e,trivial⟩ ⟨by unfold qhN; rw[h.cnt]; rw[qTK]at hx; rw[hx,qU4],a,h⟩
 ·have e:decide ((a:Int)<(↑(List.length (qn l)):Int))=false:=by rw[Jl]; exact decide_eq_false (by omega)
  exact qDF ⟨hd,e,e,e,e,e,e,e,e,e,trivial⟩ ⟨by unfold qhN; rw[h.cnt,decide_eq_false h1]; rfl,a,h⟩
theorem qDJ {l:List Int} {x:Int} (hl:l.length≤1000) (hs:asc l):∀(n a b:Nat),b - a≤n→BsI l x a b→qb J9 0 (qdY l x (↑(List.length (qn l)):Int) a b) (BsR x l):=by
 intro n
 induction n with
 | zero =>
  intro a b hn h;have:=h.ab;have e:b=a:=by omega
  subst e;exact qu3 hl h
 | succ n ih =>
  intro a b hn h;have h1:=h.ab;have h2:=h.bl
  by_cases hab:a<b
  ·have hm:=qDI hab (by omega);have hm1:(a+b) / 2<l.length:=by omega
   have g:(0:Int)≤Y3 a b∧Y3 a b<(↑(List.length (qn l)):Int):=by rw[hm,Jl]; omega
   have e2:(qn l)[Int.toNat (Y3 a b)]?=some (D.int IntKind.i64 (List.getD l (Int.toNat (Y3 a b)) (0:Int))):=by rw[hm,qTK]; exact qko hm1
   have hd:decide ((a:Int)<(b:Int))=true:=decide_eq_true (by omega);have i1:qi ((a:Int)+b):=by unfold qi; omega
   cases hx:decide (List.getD l (Int.toNat (Y3 a b)) (0:Int)<x)with
   | true =>
    have i2:qi (Y3 a b+(1:Int)):=by rw[hm]; unfold qi; omega
    refine qDB ⟨hd,i1,by omega,g,e2,rfl,qu0 _ _,hx,i2,trivial⟩ ?_;have h3:BsI l x ((a+b) / 2+1) b:=⟨by omega,h2,fun i hi=>by
     have hx:=of_decide_eq_true hx;rw[hm,qTK]at hx
     by_cases hi2:i=(a+b) / 2
     ·rw[hi2]; exact hx
     ·have:=hs i ((a+b) / 2) (by omega) hm1;omega,h.hi⟩
    have:=ih ((a+b) / 2+1) b (by omega) h3;rw[hm];exact this
   | false =>
    refine qDC ⟨hd,i1,by omega,g,e2,rfl,qu0 _ _,hx,trivial⟩ ?_;have h3:BsI l x a ((a+b) / 2):=⟨by omega,by omega,h.lo,fun i hi hi2=>by
     have hx:=of_decide_eq_false hx;rw[hm,qTK]at hx
     by_cases hi3:i=(a+b) / 2
     ·rw[hi3]; omega
     ·have:=hs ((a+b) / 2) i (by omega) hi2;omega⟩
    have:=ih a ((a+b) / 2) (by omega) h3;rw[hm];exact this
  ·have e:b=a:=by omega
   subst e;exact qu3 hl h
theorem qDK {l:List Int} {x:Int} (hl:l.length≤1000) (hs:asc l):qb J9 0 (start J9 209 [L l,I x] []) (BsR x l):=by
 refine qDG ?_;have:=qDJ (x:=x) hl hs l.length 0 l.length (by omega) ⟨by omega,by omega,fun i hi=>by omega,fun i hi hi2=>by omega⟩;rw[Jl];rw[Jl]at this;exact this
theorem qDL {l:List Int} {x:Int} (hl:l.length≤1000) (hs:asc l):RCs PP 209 [L l,I x] [] (.tup [I (qbc l x),B (qhN l x)]) :=
 qY qe0 (by kernel_rfl) ((qDK hl hs).mono fun v rows ⟨h,_⟩=>by rw[h]; rfl)
def cK (k:Nat) (f:Bool):qw:=cU (fun g=>match Nat.beq g 209 with|true=>some fun _=>.tup [I k,B f] | false=>none)
theorem qu4 (k:Nat) (f:Bool):COK (cK k f).cfg:=qpm _
theorem qu6 (l:List Int):(List.all (qn l) fun e=>List.length (D.cells e)==1)=true:=by
 rw[qTI];intro e he;obtain⟨c,_,rfl⟩:=qTV.1 he;rfl
theorem qDM {l:List Int} {x:Int} {k:Nat} {f:Bool} (h:RCs PP 209 [L l,I x] [] (.tup [I k,B f])) (hk:k≤l.length):RCs PP 133 [L l,I x] [] (.tup [.d (.list (List.take (Int.toNat (k:Int) - 0) (List.drop 0 (qn l)))),.d (.list (List.take (List.length (qn l) - Int.toNat (k:Int)) (List.drop (Int.toNat (k:Int)) (qn l))))]) :=
 qY (qu4 k f) (by kernel_rfl) (qb.toFin (qu4 k f) (qg [] [] [] 0 false true) (fun _=>false) 300
  (ps:=[RCs PP 209 [L l,I x] [] (.tup [I k,B f]),(0:Int)≤(k:Int),(0:Int)≤(k:Int),0≤Int.toNat (k:Int)∧Int.toNat (k:Int)≤List.length (qn l)∧Int.toNat (k:Int)≤Int.toNat (k:Int)∧Int.toNat (k:Int)≤List.length (qn l)∧true=true,(List.all (qn l) fun e=>List.length (D.cells e)==1)=true,(0:Int)≤(k:Int),Int.toNat (k:Int)≤List.length (qn l)∧List.length (qn l)≤List.length (qn l),(List.all (qn l) fun e=>List.length (D.cells e)==1)=true])
  (v:=.tup [.d (.list (List.take (Int.toNat (k:Int) - 0) (List.drop 0 (qn l)))),.d (.list (List.take (List.length (qn l) - Int.toNat (k:Int)) (List.drop (Int.toNat (k:Int)) (qn l))))]) (rows:=[])
  (by kernel_rfl) ⟨h,by omega,by omega,⟨by omega,by rw[Jl]; omega,by omega,by rw[Jl]; omega,rfl⟩,qu6 l,by omega,⟨by rw[Jl]; omega,by omega⟩,qu6 l,trivial⟩ rfl)
theorem qu7 {l:List Int} (x:Int) (hs:asc l):BsI l x (qbc l x) (qbc l x):=by
 have key:∀(n a b:Nat),b - a≤n→BsI l x a b→∃k,BsI l x k k:=by
  intro n
  induction n with
  | zero =>
   intro a b hn h;have:=h.ab;have e:b=a:=by omega
   subst e;exact⟨_,h⟩
  | succ n ih =>
   intro a b hn h;have h1:=h.ab;have h2:=h.bl
   by_cases hab:a<b
   ·by_cases hx:l.getD a 0<x
    ·exact ih (a+1) b (by omega) ⟨by omega,h2,fun i hi=>by
      by_cases hi2:i=a
      ·rw[hi2]; exact hx
      ·exact h.lo i (by omega),h.hi⟩
    ·exact⟨a,⟨by omega,by omega,h.lo,fun i hi hi2=>by
      by_cases hi3:i=a
      ·rw[hi3]; omega
      ·have:=hs a i (by omega) hi2;omega⟩⟩
   ·have e:b=a:=by omega
    subst e;exact⟨_,h⟩
 obtain⟨k,hk⟩:=key l.length 0 l.length (by omega) ⟨by omega,by omega,fun i hi=>by omega,fun i hi hi2=>by omega⟩;rw[hk.cnt]; exact hk
theorem qDN {l:List Int} {x:Int} (hl:l.length≤1000) (hs:asc l):RCs PP 133 [L l,I x] [] (.tup [L (qah l x),L (qax l x)]):=by
 have hk:=qu7 x hs;have h:=qDM (qDL (x:=x) hl hs) hk.bl;rw[hk.low,hk.high];have e1:(.list (List.take (Int.toNat ((qbc l x:Nat):Int) - 0) (List.drop 0 (qn l))):D)=.list (qn (l.take (qbc l x))):=by
  unfold qn;rw[qTK,qTY,←qUL,qUO]
 have e2:(.list (List.take (List.length (qn l) - Int.toNat ((qbc l x:Nat):Int)) (List.drop (Int.toNat ((qbc l x:Nat):Int)) (qn l))):D)=.list (qn (l.drop (qbc l x))):=by
  rw[qTK,qTX (by rw[qT8]; omega)];unfold qn;rw[qV5]
 rw[e1,e2]at h;exact h
end Go.Aev.M44
end
noncomputable section
namespace Go.Aev.M44
open Go Go.Aev
theorem qkE (s:Bs):Array.toList (ByteArray.data {data:=List.toArray s})=s:=rfl
theorem qEO {l:List Bs} (hl:fits l.length) (ha:∀x∈l,Jt x.length):∀(n k:Nat) (o:Bs),k+n=l.length→o.length+((l.drop k).flatMap qH).length≤70368744177664→qb cB 0 (H35 l o (k:Nat)) (YL (o++(l.drop k).flatMap qH)):=by
 intro n;unfold fits at hl
 induction n with
 | zero =>
  intro k o hk ho;rw[qVf (by omega),qV6,qT7];exact qET ⟨by rw[qkG]; exact decide_eq_false (by omega),trivial⟩ ⟨0,rfl,rfl⟩
 | succ n ih =>
  intro k o hk ho;have hx:=ha _ (qvs (show k<l.length by omega) []);have hp:=qEG.pos (l.getD k []);rw[qkA (show k<l.length by omega) [],qUq,qTN]at ho;refine qES ⟨by rw[qkG]; exact decide_eq_true (by omega),by rw[qkG]; omega,qFO (by omega),rfl,hx,qpB _,⟨by omega,by rw[q5,qTK,qkE]; omega,rfl,rfl,by rw[q5]; omega,by rw[q5,qTK,qkE]; omega,by rw[q5,qTK,qkE]; omega,by rw[q5,qTK,qkE]; omega⟩,by unfold qi; omega,trivial⟩ ?_;rw[qTK];refine qpt (s:=qH (l.getD k [])) (P:=fun v rows=>qb cB 0 (hd 188 qkF 22 [(0,V.d (D.list (qay l))),(3,v),(4,V.d (D.int IntKind.i64 ((k:Int)+1)))] rows) _) ?_;have:=ih (k+1) (o++qH (l.getD k [])) (by omega) (by rw[qTN]; omega);rw[qTW]at this;rw[qkA (show k<l.length by omega) [],qUq];exact this
theorem qEP {l:List Bs} (hl:fits l.length) (ha:∀x∈l,Jt x.length) (hs:Jt (qbA l).length):qb cB 0 (start cB 188 [LS l] []) (YL (qbA l)):=by
 refine qb.to qgd (qg []) (qaM 7) 300 (ps:=[]) (s':=C35 l) (by kernel_rfl) trivial ?_;have hl':=hl;unfold fits at hl';have h64:qK (l.length:Int):=by unfold qK; omega
 have he:=qdj h64;refine qb.callB qgd (g:=110) (ar:=[I ((qay l).length:Nat)]) (l:=enc l.length) (by kernel_rfl) (by rw[qkG]; exact qvo h64) (by kernel_rfl) ?_;refine qER trivial ?_;exact qEO hl ha l.length 0 (enc l.length) (by omega) (by unfold Jt qbA at hs; rw[qTN]at hs; exact hs)
theorem qEQ {l:List Bs} (hl:fits l.length) (ha:∀x∈l,Jt x.length) (hs:Jt (qbA l).length):qS PP 188 0 [LS l] [] (qbd (qbA l)):=YL.new (qa9 qgd (by kernel_rfl) (qEP hl ha hs))
def zzA (n:Int):Nat:=(if n<0 then IntKind.u64.wrap (IntKind.u64.wrap (IntKind.u64.wrap (IntKind.i64.wrap (-1 - n))*2)+1)else IntKind.u64.wrap (IntKind.u64.wrap n*2)).toNat
theorem qpo (n:Int):zzA n<18446744073709551616:=by
 unfold zzA;split<;>rw[w64]<;>omega
theorem qu8 {n:Int} (h:n<0):IntKind.u64.wrap (IntKind.u64.wrap (IntKind.u64.wrap (IntKind.i64.wrap (-1 - n))*2)+1)=(zzA n:Int):=by
 unfold zzA;rw[if_pos h,w64]; omega
theorem qu9 {n:Int} (h:¬n<0):IntKind.u64.wrap (IntKind.u64.wrap n*2)=(zzA n:Int):=by
 unfold zzA;rw[if_neg h,w64]; omega
theorem qva {n:Int} (h:qK n):zzA n=zz n:=by
 have e:IntKind.i64.wrap (-1 - n)=-1 - n:=qf4 (by unfold qK at h; unfold qi; omega)
 by_cases hn:n<0
 ·have:=qu8 hn;rw[e,qvh h hn]at this;omega
 ·have:=qu9 hn;rw[qvi h hn]at this;omega
def Y8 (n:Int):Bs:=vb (zzA n)
theorem qkw (n:Int):(Y8 n).length≤10:=qpy (qpo n)
theorem qDO (n:Int):0<(Y8 n).length:=by
 unfold Y8;rw[vb];split<;>simp
theorem qDP {n:Int} {Q:V→Aev.Rows→Prop} (hp:qf [decide (n<(0:Int))=true]) (h:qb c0 0 (hd 110 qe1 31 [(3,V.d (D.int IntKind.u64 (IntKind.wrap IntKind.u64 (IntKind.wrap IntKind.u64 (IntKind.wrap IntKind.u64 (IntKind.wrap IntKind.i64 ((-1:Int) - n))*(2:Int))+(1:Int))))),(4,V.nil)] []) Q):qb c0 0 (start c0 110 [I n] []) Q :=
 qb.turn Yn {qg [(9,true)] [] [] 0 false true with wr:=true} qo 300 [] [3,4] (by kernel_rfl) hp h
theorem qvb (n:Int):qb c0 0 (start c0 110 [I n] []) (YL (Y8 n)):=by
 by_cases hn:n<0
 ·refine qDP ⟨decide_eq_true hn,trivial⟩ ?_;rw[qu8 hn];exact qkz (qpo n)
 ·refine qvq ⟨decide_eq_false hn,trivial⟩ ?_;rw[qu9 hn];exact qkz (qpo n)
theorem qDQ (n:Int):RCs PP 110 [I n] [] (LB (Y8 n)):=qY Yn (by kernel_rfl) ((qvb n).mono fun _ _ h=>h.conv)
theorem qDR (n:Int):qS PP 110 0 [I n] [] (qbd (Y8 n)):=YL.new (qa9 Yn (by kernel_rfl) (qvb n))
def qpp (g:FuncId) (args:List V) (_rows:Aev.Rows):Option (List Prop×V) :=
 match g,args with
 | 110,[.d (.int .i64 n)]=>some ([],LB (Y8 n))|_,_=>none
def cA:qw:=mk (fun _=>true) qpp
theorem qDS {g:FuncId} {args:List V} {rows:Aev.Rows} {ps:List Prop} {v:V} (h:qpp g args rows=some (ps,v)) (hp:qf ps):RCs PP g args rows v:=by
 unfold qpp at h;split at h
 ·cases h;exact(qDQ _).of_lists (.cons (.data _) .nil)
 ·cases h
theorem qf9:COK cA.cfg:=qeZ fun g args rows ps v h hp=>qDS h hp
def qpq (l:List Int):AS:=JJ (sTo cA (qg []) (qaM 7) 300 (start cA 51 [L l] []))
def qkx:List qT:=(JJ (sTo cA (qg []) qo 300 (qbe (qpq []) (YD [0]) (YM [0])))).fr.todo
def qpr (l:List Int) (o:List UInt8) (k:Int):AS:=hd 51 qkx 22 [(0,L l),(3,YD o),(4,I k)] (YM o)
theorem qDT {l:List Int} {o:List UInt8} {Q:V→Aev.Rows→Prop} (hp:qf []) (h:qb cA 0 (hd 51 qkx 22 [(0,V.d (D.list (qn l))),(3,V.sl (0) (1) (0) o.length o.length false),(4,V.d (D.int IntKind.i64 (0:Int)))] [qd.live (Row.dat (1) (qh o) false)]) Q):qb cA 0 (qbe (qpq l) (YD o) (YM o)) Q :=
 qb.turn qf9 (qg [] [] [] 0 false true) qo 140 [0] [0,3,4] (by kernel_rfl) hp h
theorem qDU {l:List Int} {o:List UInt8} {k:Int} {Q:V→Aev.Rows→Prop} (hp:qf [decide (k<(↑(List.length (qn l)):Int))=true,(0:Int)≤k∧k<(↑(List.length (qn l)):Int),(qn l)[Int.toNat k]?=some (D.int IntKind.i64 (List.getD l (Int.toNat k) (0:Int))),1=1,(List.all (qh (Y8 (List.getD l (Int.toNat k) (0:Int)))) fun e=>List.length (D.cells e)==1)=true,0<1∧List.length (qh (Y8 (List.getD l (Int.toNat k) (0:Int))))≠0∧1=1∧1=1∧0+o.length≤List.length (qh o)∧¬o.length+List.length (qh (Y8 (List.getD l (Int.toNat k) (0:Int))))≤o.length∧2*(o.length+List.length (qh (Y8 (List.getD l (Int.toNat k) (0:Int)))))*1≤281474976710656∧o.length+List.length (qh (Y8 (List.getD l (Int.toNat k) (0:Int))))≤4611686018427387904,qi (k+(1:Int))]) (h:qb cA 0 (hd 51 qkx 22 [(0,V.d (D.list (qn l))),(3,V.sl (0) (1) (0) (o.length+List.length (qh (Y8 (List.getD l (Int.toNat k) (0:Int))))) (o.length+List.length (qh (Y8 (List.getD l (Int.toNat k) (0:Int))))) false),(4,V.d (D.int IntKind.i64 (k+(1:Int))))] [qd.live (Row.dat (1) (List.take o.length (List.drop (0) (qh o))++qh (Y8 (List.getD l (Int.toNat k) (0:Int)))) false)]) Q):qb cA 0 (qpr l o k) Q :=
 qb.turn qf9 (qg [(11,true)] [(15,elI (l))] [] 1 false true) qo 140 [1] [0,3,4] (by kernel_rfl) hp h
theorem qDV {l:List Int} {o:List UInt8} {k:Int} {Q:V→Aev.Rows→Prop} (hp:qf [decide (k<(↑(List.length (qn l)):Int))=false]) (h:Q (V.sl (0) (1) (0) o.length o.length false) ([qd.live (Row.dat (1) (qh o) false)])):qb cA 0 (qpr l o k) Q :=
 qb.toFin qf9 (qg [(11,false)] [] [] 0 false true) qo 140 (by kernel_rfl) hp h
def qbz (l:List Int):Bs:=Y8 l.length++l.flatMap Y8
theorem qDW {l:List Int} (hl:fits l.length):∀(n k:Nat) (o:Bs),k+n=l.length→o.length+10*n≤21474836480→qb cA 0 (qpr l o (k:Nat)) (YL (o++(l.drop k).flatMap Y8)):=by
 intro n;unfold fits at hl
 induction n with
 | zero =>
  intro k o hk ho;rw[qVf (by omega),qV6,qT7];exact qDV ⟨by rw[Jl]; exact decide_eq_false (by omega),trivial⟩ ⟨0,rfl,rfl⟩
 | succ n ih =>
  intro k o hk ho;have he:=qkw (l.getD k 0);have hp:=qDO (l.getD k 0);refine qDU ⟨by rw[Jl]; exact decide_eq_true (by omega),by rw[Jl]; omega,qko (by omega),rfl,qpB _,⟨by omega,by rw[q5,qTK]; omega,rfl,rfl,by rw[q5]; omega,by rw[q5,qTK]; omega,by rw[q5,qTK]; omega,by rw[q5,qTK]; omega⟩,by unfold qi; omega,trivial⟩ ?_;rw[qTK];refine qpt (P:=fun v rows=>qb cA 0 (hd 51 qkx 22 [(0,V.d (D.list (qn l))),(3,v),(4,V.d (D.int IntKind.i64 ((k:Int)+1)))] rows) _) ?_;have:=ih (k+1) (o++Y8 (l.getD k 0)) (by omega) (by rw[qTN]; omega);rw[qTW]at this;rw[qkA (show k<l.length by omega) 0,qUq];exact this
theorem qDX {l:List Int} (hl:fits l.length):qb cA 0 (start cA 51 [L l] []) (YL (qbz l)):=by
 refine qb.to qf9 (qg []) (qaM 7) 300 (ps:=[]) (s':=qpq l) (by kernel_rfl) trivial ?_;have hl':=hl;unfold fits at hl';have h64:qK (l.length:Int):=by unfold qK; omega
 have he:=qkw l.length;refine qb.callB qf9 (g:=110) (ar:=[I ((qn l).length:Nat)]) (l:=Y8 l.length) (by kernel_rfl) (by rw[Jl]; exact qDR _) (by kernel_rfl) ?_;refine qDT trivial ?_;exact qDW hl l.length 0 (Y8 l.length) (by omega) (by omega)
theorem qDY {l:List Int} (hl:fits l.length):qS PP 51 0 [L l] [] (qbd (qbz l)):=YL.new (qa9 qf9 (by kernel_rfl) (qDX hl))
end Go.Aev.M44
end
section
namespace Go.Aev.R29
open Go Go.Aev Go.Aev.R
def qeo (ds:List D) (d:D):Prop:=d=.int .u32 (M44.qA (toI (qa ds 0)) (32 - (-toI (qa ds 1)).toNat) (-toI (qa ds 1)).toNat)
def qJM:Con:={pts:=[.i .u32,.i .i64],pre:=[.le (.i (-31)) Zc,.le Zc (.i (-1))],rts:=[.i .u32],post:=[]}
def qbJ:Con:={qJM with fact:=qeo}
theorem qJN (x:Int):RCs PP 390 [.d (.int .u32 x),I (-1)] [] (.d (.int .u32 (M44.qA x 31 1))):=qY M44.qt (by kernel_rfl) (qb.toFin M44.qt (qg []) qo 200 (ps:=[]) (v:=.d (.int .u32 (M44.qA x 31 1))) (rows:=[]) (by kernel_rfl) trivial rfl)
theorem qJO (x:Int):RCs PP 390 [.d (.int .u32 x),I (-2)] [] (.d (.int .u32 (M44.qA x 30 2))):=qY M44.qt (by kernel_rfl) (qb.toFin M44.qt (qg []) qo 200 (ps:=[]) (v:=.d (.int .u32 (M44.qA x 30 2))) (rows:=[]) (by kernel_rfl) trivial rfl)
theorem qJP (x:Int):RCs PP 390 [.d (.int .u32 x),I (-3)] [] (.d (.int .u32 (M44.qA x 29 3))):=qY M44.qt (by kernel_rfl) (qb.toFin M44.qt (qg []) qo 200 (ps:=[]) (v:=.d (.int .u32 (M44.qA x 29 3))) (rows:=[]) (by kernel_rfl) trivial rfl)
theorem qJQ (x:Int):RCs PP 390 [.d (.int .u32 x),I (-4)] [] (.d (.int .u32 (M44.qA x 28 4))):=qY M44.qt (by kernel_rfl) (qb.toFin M44.qt (qg []) qo 200 (ps:=[]) (v:=.d (.int .u32 (M44.qA x 28 4))) (rows:=[]) (by kernel_rfl) trivial rfl)
theorem qJR (x:Int):RCs PP 390 [.d (.int .u32 x),I (-5)] [] (.d (.int .u32 (M44.qA x 27 5))):=qY M44.qt (by kernel_rfl) (qb.toFin M44.qt (qg []) qo 200 (ps:=[]) (v:=.d (.int .u32 (M44.qA x 27 5))) (rows:=[]) (by kernel_rfl) trivial rfl)
theorem qJS (x:Int):RCs PP 390 [.d (.int .u32 x),I (-6)] [] (.d (.int .u32 (M44.qA x 26 6))):=qY M44.qt (by kernel_rfl) (qb.toFin M44.qt (qg []) qo 200 (ps:=[]) (v:=.d (.int .u32 (M44.qA x 26 6))) (rows:=[]) (by kernel_rfl) trivial rfl)
theorem qJT (x:Int):RCs PP 390 [.d (.int .u32 x),I (-7)] [] (.d (.int .u32 (M44.qA x 25 7))):=qY M44.qt (by kernel_rfl) (qb.toFin M44.qt (qg []) qo 200 (ps:=[]) (v:=.d (.int .u32 (M44.qA x 25 7))) (rows:=[]) (by kernel_rfl) trivial rfl)
theorem qJU (x:Int):RCs PP 390 [.d (.int .u32 x),I (-8)] [] (.d (.int .u32 (M44.qA x 24 8))):=qY M44.qt (by kernel_rfl) (qb.toFin M44.qt (qg []) qo 200 (ps:=[]) (v:=.d (.int .u32 (M44.qA x 24 8))) (rows:=[]) (by kernel_rfl) trivial rfl)
theorem qJV (x:Int):RCs PP 390 [.d (.int .u32 x),I (-9)] [] (.d (.int .u32 (M44.qA x 23 9))):=qY M44.qt (by kernel_rfl) (qb.toFin M44.qt (qg []) qo 200 (ps:=[]) (v:=.d (.int .u32 (M44.qA x 23 9))) (rows:=[]) (by kernel_rfl) trivial rfl)
theorem qJW (x:Int):RCs PP 390 [.d (.int .u32 x),I (-10)] [] (.d (.int .u32 (M44.qA x 22 10))):=qY M44.qt (by kernel_rfl) (qb.toFin M44.qt (qg []) qo 200 (ps:=[]) (v:=.d (.int .u32 (M44.qA x 22 10))) (rows:=[]) (by kernel_rfl) trivial rfl)
theorem qJX (x:Int):RCs PP 390 [.d (.int .u32 x),I (-11)] [] (.d (.int .u32 (M44.qA x 21 11))):=qY M44.qt (by kernel_rfl) (qb.toFin M44.qt (qg []) qo 200 (ps:=[]) (v:=.d (.int .u32 (M44.qA x 21 11))) (rows:=[]) (by kernel_rfl) trivial rfl)
theorem qJY (x:Int):RCs PP 390 [.d (.int .u32 x),I (-12)] [] (.d (.int .u32 (M44.qA x 20 12))):=qY M44.qt (by kernel_rfl) (qb.toFin M44.qt (qg []) qo 200 (ps:=[]) (v:=.d (.int .u32 (M44.qA x 20 12))) (rows:=[]) (by kernel_rfl) trivial rfl)
theorem qJZ (x:Int):RCs PP 390 [.d (.int .u32 x),I (-13)] [] (.d (.int .u32 (M44.qA x 19 13))):=qY M44.qt (by kernel_rfl) (qb.toFin M44.qt (qg []) qo 200 (ps:=[]) (v:=.d (.int .u32 (M44.qA x 19 13))) (rows:=[]) (by kernel_rfl) trivial rfl)
theorem qJ0 (x:Int):RCs PP 390 [.d (.int .u32 x),I (-14)] [] (.d (.int .u32 (M44.qA x 18 14))):=qY M44.qt (by kernel_rfl) (qb.toFin M44.qt (qg []) qo 200 (ps:=[]) (v:=.d (.int .u32 (M44.qA x 18 14))) (rows:=[]) (by kernel_rfl) trivial rfl)
theorem qJ1 (x:Int):RCs PP 390 [.d (.int .u32 x),I (-15)] [] (.d (.int .u32 (M44.qA x 17 15))):=qY M44.qt (by kernel_rfl) (qb.toFin M44.qt (qg []) qo 200 (ps:=[]) (v:=.d (.int .u32 (M44.qA x 17 15))) (rows:=[]) (by kernel_rfl) trivial rfl)
theorem qJ2 (x:Int):RCs PP 390 [.d (.int .u32 x),I (-16)] [] (.d (.int .u32 (M44.qA x 16 16))):=qY M44.qt (by kernel_rfl) (qb.toFin M44.qt (qg []) qo 200 (ps:=[]) (v:=.d (.int .u32 (M44.qA x 16 16))) (rows:=[]) (by kernel_rfl) trivial rfl)
theorem qJ3 (x:Int):RCs PP 390 [.d (.int .u32 x),I (-17)] [] (.d (.int .u32 (M44.qA x 15 17))):=qY M44.qt (by kernel_rfl) (qb.toFin M44.qt (qg []) qo 200 (ps:=[]) (v:=.d (.int .u32 (M44.qA x 15 17))) (rows:=[]) (by kernel_rfl) trivial rfl)
theorem qJ4 (x:Int):RCs PP 390 [.d (.int .u32 x),I (-18)] [] (.d (.int .u32 (M44.qA x 14 18))):=qY M44.qt (by kernel_rfl) (qb.toFin M44.qt (qg []) qo 200 (ps:=[]) (v:=.d (.int .u32 (M44.qA x 14 18))) (rows:=[]) (by kernel_rfl) trivial rfl)
theorem qJ5 (x:Int):RCs PP 390 [.d (.int .u32 x),I (-19)] [] (.d (.int .u32 (M44.qA x 13 19))):=qY M44.qt (by kernel_rfl) (qb.toFin M44.qt (qg []) qo 200 (ps:=[]) (v:=.d (.int .u32 (M44.qA x 13 19))) (rows:=[]) (by kernel_rfl) trivial rfl)
theorem qJ6 (x:Int):RCs PP 390 [.d (.int .u32 x),I (-20)] [] (.d (.int .u32 (M44.qA x 12 20))):=qY M44.qt (by kernel_rfl) (qb.toFin M44.qt (qg []) qo 200 (ps:=[]) (v:=.d (.int .u32 (M44.qA x 12 20))) (rows:=[]) (by kernel_rfl) trivial rfl)
theorem qJ7 (x:Int):RCs PP 390 [.d (.int .u32 x),I (-21)] [] (.d (.int .u32 (M44.qA x 11 21))):=qY M44.qt (by kernel_rfl) (qb.toFin M44.qt (qg []) qo 200 (ps:=[]) (v:=.d (.int .u32 (M44.qA x 11 21))) (rows:=[]) (by kernel_rfl) trivial rfl)
theorem qJ8 (x:Int):RCs PP 390 [.d (.int .u32 x),I (-22)] [] (.d (.int .u32 (M44.qA x 10 22))):=qY M44.qt (by kernel_rfl) (qb.toFin M44.qt (qg []) qo 200 (ps:=[]) (v:=.d (.int .u32 (M44.qA x 10 22))) (rows:=[]) (by kernel_rfl) trivial rfl)
theorem qJ9 (x:Int):RCs PP 390 [.d (.int .u32 x),I (-23)] [] (.d (.int .u32 (M44.qA x 9 23))):=qY M44.qt (by kernel_rfl) (qb.toFin M44.qt (qg []) qo 200 (ps:=[]) (v:=.d (.int .u32 (M44.qA x 9 23))) (rows:=[]) (by kernel_rfl) trivial rfl)
theorem qKa (x:Int):RCs PP 390 [.d (.int .u32 x),I (-24)] [] (.d (.int .u32 (M44.qA x 8 24))):=qY M44.qt (by kernel_rfl) (qb.toFin M44.qt (qg []) qo 200 (ps:=[]) (v:=.d (.int .u32 (M44.qA x 8 24))) (rows:=[]) (by kernel_rfl) trivial rfl)
theorem qKb (x:Int):RCs PP 390 [.d (.int .u32 x),I (-25)] [] (.d (.int .u32 (M44.qA x 7 25))):=qY M44.qt (by kernel_rfl) (qb.toFin M44.qt (qg []) qo 200 (ps:=[]) (v:=.d (.int .u32 (M44.qA x 7 25))) (rows:=[]) (by kernel_rfl) trivial rfl)
theorem qKc (x:Int):RCs PP 390 [.d (.int .u32 x),I (-26)] [] (.d (.int .u32 (M44.qA x 6 26))):=qY M44.qt (by kernel_rfl) (qb.toFin M44.qt (qg []) qo 200 (ps:=[]) (v:=.d (.int .u32 (M44.qA x 6 26))) (rows:=[]) (by kernel_rfl) trivial rfl)
theorem qKd (x:Int):RCs PP 390 [.d (.int .u32 x),I (-27)] [] (.d (.int .u32 (M44.qA x 5 27))):=qY M44.qt (by kernel_rfl) (qb.toFin M44.qt (qg []) qo 200 (ps:=[]) (v:=.d (.int .u32 (M44.qA x 5 27))) (rows:=[]) (by kernel_rfl) trivial rfl)
theorem qKe (x:Int):RCs PP 390 [.d (.int .u32 x),I (-28)] [] (.d (.int .u32 (M44.qA x 4 28))):=qY M44.qt (by kernel_rfl) (qb.toFin M44.qt (qg []) qo 200 (ps:=[]) (v:=.d (.int .u32 (M44.qA x 4 28))) (rows:=[]) (by kernel_rfl) trivial rfl)
theorem qKf (x:Int):RCs PP 390 [.d (.int .u32 x),I (-29)] [] (.d (.int .u32 (M44.qA x 3 29))):=qY M44.qt (by kernel_rfl) (qb.toFin M44.qt (qg []) qo 200 (ps:=[]) (v:=.d (.int .u32 (M44.qA x 3 29))) (rows:=[]) (by kernel_rfl) trivial rfl)
theorem qKg (x:Int):RCs PP 390 [.d (.int .u32 x),I (-30)] [] (.d (.int .u32 (M44.qA x 2 30))):=qY M44.qt (by kernel_rfl) (qb.toFin M44.qt (qg []) qo 200 (ps:=[]) (v:=.d (.int .u32 (M44.qA x 2 30))) (rows:=[]) (by kernel_rfl) trivial rfl)
theorem qKh (x:Int):RCs PP 390 [.d (.int .u32 x),I (-31)] [] (.d (.int .u32 (M44.qA x 1 31))):=qY M44.qt (by kernel_rfl) (qb.toFin M44.qt (qg []) qo 200 (ps:=[]) (v:=.d (.int .u32 (M44.qA x 1 31))) (rows:=[]) (by kernel_rfl) trivial rfl)
variable [PW]
theorem qym:qp PP 390 qbJ:=fun ds hp=>by
 obtain⟨a,b,rfl⟩:∃a b,ds=[a,b]:=by
  match ds,hp.1.1 with
  | [a,b],_=>exact⟨a,b,rfl⟩
 obtain⟨x,rfl⟩:qj (.i .u32) a:=hp.1.2 0 _ rfl;obtain⟨n,rfl⟩:qj (.i .i64) b:=hp.1.2 1 _ rfl;have h1:-31≤n:=hp.2 _ (qTR ..);have h2:n≤-1:=hp.2 _ (qTG _ (qTR ..));have key:∀(m s r:Nat),n=-(m:Int)→s=32 - m→r=m→RCs PP 390 [.d (.int .u32 x),I n] [] (.d (.int .u32 (M44.qA x s r)))→∃d,J0 qbJ [.int .u32 x,.int .i64 n] d∧JP PP 390 qbJ [.int .u32 x,.int .i64 n] d:=by
  rintro m s r rfl rfl rfl h
  refine⟨.int .u32 (M44.qA x (32 - r) r),⟨⟨⟨_,rfl⟩,fun f hf=>by cases hf⟩,?_⟩,h⟩;show _=D.int .u32 (M44.qA x (32 - (- -(r:Int)).toNat) (- -(r:Int)).toNat);rw[Int.neg_neg,qTK]
 have hn:n=-1∨n=-2∨n=-3∨n=-4∨n=-5∨n=-6∨n=-7∨n=-8∨n=-9∨n=-10∨n=-11∨n=-12∨n=-13∨n=-14∨n=-15∨n=-16∨n=-17∨n=-18∨n=-19∨n=-20∨n=-21∨n=-22∨n=-23∨n=-24∨n=-25∨n=-26∨n=-27∨n=-28∨n=-29∨n=-30∨n=-31:=by omega
 rcases hn with rfl|rfl|rfl|rfl|rfl|rfl|rfl|rfl|rfl|rfl|rfl|rfl|rfl|rfl|rfl|rfl|rfl|rfl|rfl|rfl|rfl|rfl|rfl|rfl|rfl|rfl|rfl|rfl|rfl|rfl|rfl
 ·exact key 1 _ _ rfl rfl rfl (qJN x)
 ·exact key 2 _ _ rfl rfl rfl (qJO x)
 ·exact key 3 _ _ rfl rfl rfl (qJP x)
 ·exact key 4 _ _ rfl rfl rfl (qJQ x)
 ·exact key 5 _ _ rfl rfl rfl (qJR x)
 ·exact key 6 _ _ rfl rfl rfl (qJS x)
 ·exact key 7 _ _ rfl rfl rfl (qJT x)
 ·exact key 8 _ _ rfl rfl rfl (qJU x)
 ·exact key 9 _ _ rfl rfl rfl (qJV x)
 ·exact key 10 _ _ rfl rfl rfl (qJW x)
 ·exact key 11 _ _ rfl rfl rfl (qJX x)
 ·exact key 12 _ _ rfl rfl rfl (qJY x)
 ·exact key 13 _ _ rfl rfl rfl (qJZ x)
 ·exact key 14 _ _ rfl rfl rfl (qJ0 x)
 ·exact key 15 _ _ rfl rfl rfl (qJ1 x)
 ·exact key 16 _ _ rfl rfl rfl (qJ2 x)
 ·exact key 17 _ _ rfl rfl rfl (qJ3 x)
 ·exact key 18 _ _ rfl rfl rfl (qJ4 x)
 ·exact key 19 _ _ rfl rfl rfl (qJ5 x)
 ·exact key 20 _ _ rfl rfl rfl (qJ6 x)
 ·exact key 21 _ _ rfl rfl rfl (qJ7 x)
 ·exact key 22 _ _ rfl rfl rfl (qJ8 x)
 ·exact key 23 _ _ rfl rfl rfl (qJ9 x)
 ·exact key 24 _ _ rfl rfl rfl (qKa x)
 ·exact key 25 _ _ rfl rfl rfl (qKb x)
 ·exact key 26 _ _ rfl rfl rfl (qKc x)
 ·exact key 27 _ _ rfl rfl rfl (qKd x)
 ·exact key 28 _ _ rfl rfl rfl (qKe x)
 ·exact key 29 _ _ rfl rfl rfl (qKf x)
 ·exact key 30 _ _ rfl rfl rfl (qKg x)
 ·exact key 31 _ _ rfl rfl rfl (qKh x)
end Go.Aev.R29
end
noncomputable section
namespace Go.Aev.R29
open Go Go.Aev Go.Aev.R
variable [PW]
def qfi (ds:List D) (d:D):Prop:=toL d=qh (M44.qH (toS (qa ds 0)))
def qxs (ds:List D) (d:D):Prop:=toL d=qh (M44.qbz ((toL (qa ds 0)).map toI))
def qxt (ds:List D) (d:D):Prop:=toL d=qh (M44.qbA ((toL (qa ds 0)).map toS))
def qxu:Con:={pts:=[.s 1000000000],pre:=[],rts:=[.l 1000000010 .y8],post:=[.le Zi (.w 0 Zbn (.u 7 0 Ze))]}
def qfj:Con:={qxu with fact:=qfi}
def qxv:Con:={pts:=[.l 100000000 (.i .i64)],pre:=[],rts:=[.l 1000000010 .y8],post:=[.le Zi (.w 0 Zbn (.w 2 Zbn Zt))],nw:=true}
def qej:Con:={qxv with fact:=qxs}
def qxw:Con:={pts:=[.l 3000000 Zcf],pre:=[],rts:=[.l 933000010 .y8],post:=[.le Zi (.w 0 Zbn (.w 2 (.i 311) Zt))],nw:=true}
def qek:Con:={qxw with fact:=qxt}
theorem qqQ {ds:List D} (h:ds.length=1):∃a,ds=[a]:=by
 match ds,h with
 | [a],_=>exact⟨a,rfl⟩
theorem qqR {l:List UInt8} {n:Nat} (h:l.length≤n):qj (.l n .y8) (.list (qh l)) :=
 ⟨_,rfl,by rw[M44.q5]; exact h,fun x hx=>by
  obtain⟨c,_,rfl⟩:=qTV.1 hx;exact⟨c,rfl⟩⟩
theorem qxx {P:Program} {g:FuncId} {args:List V} {l:List UInt8} (h:qS P g 0 args [] (M44.qbd l)):qS P g 0 args [] (qig (qh l)):=by
 have e:M44.qbd l=qig (qh l):=by
  funext v rows
  unfold M44.qbd M44.YD M44.YM qig;rw[M44.q5]
 rw[←e]; exact h
theorem qHX {es:List D} (h:∀x∈es,qj (.i .i64) x):Go.Aev.qn (es.map toI)=es:=by
 unfold Go.Aev.qn;rw[qUs]
 conv=>rhs; rw[←qVp es]
 refine qUv fun x hx=>?_
 obtain⟨n,rfl⟩:=h x hx;rfl
theorem qHY {n:Nat} {es:List D} (h:∀x∈es,qj (.s n) x):M44.qay (es.map toS)=es:=by
 unfold M44.qay;rw[qUs]
 conv=>rhs; rw[←qVp es]
 refine qUv fun x hx=>?_
 obtain⟨l,rfl,_⟩:=h x hx;rfl
theorem qhU {α:Type} {f:α→List UInt8} {k:Nat}:∀{l:List α},(∀x∈l,(f x).length≤k)→(l.flatMap f).length≤k*l.length
 | [],_=>by simp
 | a::r,h=>by
  have h1:=h a qTR;have h2:=qhU (f:=f) (l:=r) fun x hx=>h x (qTG _ hx)
  rw[qUq,qTN,qT9,Nat.mul_succ];omega
theorem qir {n:Nat} (h:n≤1073741824):M44.qK (n:Int):=by unfold M44.qK; omega
theorem qHZ:qp PP 191 qfj:=fun ds hp=>by
 obtain⟨a,rfl⟩:=qqQ hp.1.1;obtain⟨l,rfl,hl⟩:qj (.s 1000000000) a:=hp.1.2 0 _ rfl;have h:=M44.qdj (qir (n:=l.length) (by omega));have e:(M44.qH l).length≤10+l.length:=by unfold M44.qH; rw[qTN]; omega
 refine⟨.list (qh (M44.qH l)),⟨⟨qqR (by omega),fun f hf=>?_⟩,rfl⟩,M44.qvC (s:=l) (by unfold M44.Jt; omega)⟩;simp only[qfj,qxu,qTD,qTJ,or_false]at hf;subst hf;show((qh (M44.qH l)).length:Int)≤10+(l.length:Int);rw[M44.q5]; omega
theorem qxy:qp PP 51 qej:=fun ds hp=>by
 obtain⟨a,rfl⟩:=qqQ hp.1.1;obtain⟨es,rfl,hl,ht⟩:qj (.l 100000000 (.i .i64)) a:=hp.1.2 0 _ rfl;have e:(M44.qbz (es.map toI)).length≤10+10*es.length:=by
  unfold M44.qbz;have:=M44.qkw ((es.map toI).length:Nat);have h2:=qhU (f:=M44.Y8) (k:=10) (l:=es.map toI) fun x _=>M44.qkw x
  rw[qTS]at h2;rw[qTN]; omega
 have hd:=M44.qDY (l:=es.map toI) (by unfold M44.fits; rw[qTS]; omega);rw[show Go.Aev.L (es.map toI)=V.d (.list es) from congrArg (fun l=>V.d (.list l)) (qHX ht)]at hd;refine⟨.list (qh (M44.qbz (es.map toI))),⟨⟨qqR (by omega),fun f hf=>?_⟩,rfl⟩,qxx hd⟩;simp only[qej,qxv,qTD,qTJ,or_false]at hf;subst hf;show((qh (M44.qbz (es.map toI))).length:Int)≤10+10*(es.length:Int);rw[M44.q5]; omega
theorem qxz:qp PP 188 qek:=fun ds hp=>by
 obtain⟨a,rfl⟩:=qqQ hp.1.1;obtain⟨es,rfl,hl,ht⟩:qj (.l 3000000 (.s 301)) a:=hp.1.2 0 _ rfl;have hs:∀x∈es.map toS,x.length≤301:=by
  intro x hx;obtain⟨d,hd,rfl⟩:=qTV.1 hx;obtain⟨l,rfl,h⟩:=ht d hd;exact h
 have hb:∀x∈es.map toS,(M44.qH x).length≤311:=by
  intro x hx;have:=hs x hx;have h:=M44.qdj (qir (n:=x.length) (by omega));unfold M44.qH; rw[qTN]; omega
 have e:(M44.qbA (es.map toS)).length≤10+311*es.length:=by
  unfold M44.qbA;have h:=M44.qdj (qir (n:=(es.map toS).length) (by rw[qTS]; omega));have h2:=qhU (f:=M44.qH) (k:=311) hb;rw[qTS]at h2;rw[qTN]; omega
 have hd:=M44.qEQ (l:=es.map toS) (by unfold M44.fits; rw[qTS]; omega) (fun x hx=>by have:=hs x hx; unfold M44.Jt; omega) (by unfold M44.Jt; omega);rw[show M44.LS (es.map toS)=V.d (.list es) from congrArg (fun l=>V.d (.list l)) (qHY ht)]at hd;refine⟨.list (qh (M44.qbA (es.map toS))),⟨⟨qqR (by omega),fun f hf=>?_⟩,rfl⟩,qxx hd⟩;simp only[qek,qxw,qTD,qTJ,or_false]at hf;subst hf;show((qh (M44.qbA (es.map toS))).length:Int)≤10+311*(es.length:Int);rw[M44.q5]; omega
def shI (s:D):List Int:=[toI (cel s 0),toI (cel s 1)]
def qeq (f:D):List Int:=[toI (cel f 0),toI (cel f 1),toI (cel f 2),((toL (cel f 3)).length:Nat)]
def qdu (z:D):List Int:=[toI (cel z 0),toI (cel z 4),toI (cel z 5),toI (cel z 6),toI (cel z 7),toI (cel z 8),((toL (cel z 1)).length:Nat)]++(toL (cel z 1)).map toI++[(((toL (cel z 2)).length:Nat):Int)]++(toL (cel z 2)).map toI++[(((toL (cel z 3)).length:Nat):Int)]
def qgO (f:D):List (List UInt8):=(toL (cel f 3)).map toS
def qer (z:D):List Int:=qdu z++(toL (cel z 3)).flatMap shI++[(((toL (cel z 9)).length:Nat):Int)]++(toL (cel z 9)).flatMap qeq
def qfA (ds:List D) (d:D):Prop:=toL d=qh (M44.qbz (qer (qa ds 0))++M44.qbA ((toL (cel (qa ds 0) 9)).flatMap qgO))
def qgP:Con:={pts:=[qd4],pre:=[.rows 6 ZaD ZaN Zdk],rts:=[.l 1000000000 .y8],post:=[]}
def qcg:RFn:=mF 185 qgP [⟨7,[(1,Zc4),(3,.o (.sl 1 1 Za Zc Zb false)),(4,Zbb)],[Zgh,Zd8],ZhL,[Z6,.le Zd (.i 301),.le ZX (.w 0 (.i 613) (.w 2 ZY Zd)),ZcD,Zcs],(Zg,.w 1 ZbX Zd,Zk,Za,Za,Za)⟩,⟨13,[(1,Zc4),(3,.o (.sl 1 1 Za Zc Zb false)),(5,Zbo),(6,Zbb)],[Zgh,Zd8],ZhL,[Z6,.le ZX (.w 0 (.i 1216) (.w 2 Z0 Zd)),Zgi,Zcs,ZbM,ZcF],(Za,.w 1 ZaN Zd,Zk,Za,Za,Za)⟩,⟨13,[(1,Zc4),(3,.o (.sl 1 1 Za Zc Zb false)),(5,ZhK),(6,ZbS)],[Zgh,Zdj,Zc0],[qd4,.i .i64,.i .i64,.i .i64,.i .i64,.i .i64,ZeC,.l 3000000 Zcf],[.le ZX (.w 0 (.i 1216) (.w 2 Z0 Zj)),.le Zaa (.w 2 Zdk Zj),.nle Z4 ZX,.nle Zbp Zaa,.nle ZfK Z4,ZbM,.nle Zeq Zbp,Zdg],(Za,.w 1 ZaN Zj,Zk,Za,Za,Za)⟩]
def qes:Tab:=[(51,qej),(188,qek)]
theorem qMh:qaT PP qcg qes=true:=by kernel_rfl
theorem qMi:qy PP qcg qes (qcg.sts.getD 0 default)=true:=by kernel_rfl
theorem qMj:qy PP qcg qes (qcg.sts.getD 1 default)=true:=by kernel_rfl
theorem qMk:qy PP qcg qes (qcg.sts.getD 2 default)=true:=by kernel_rfl
theorem qyP:Ye PP 185 qgP (Ev0 PP qcg qes):=fe qcg qes (qm qxy (qm qxz (qu))) (qbC qMh ⟨qMi,qMj,qMk,trivial⟩) (by refine⟨?_,?_,?_,?_,trivial⟩<;>intro<;>kernel_rfl)
theorem qMl:qp PP 185 qgP:=qyP.ok
def qmk:Con:={qgP with post:=qgP.post++[],fact:=qfA}
def qyQ:TQ:=.fork (.w 11 Zdl Za) (.fork (.w 11 ZF Za) (.next [] 0 [Ze,.w 8 Zgk ZeD,.w 8 Zgk ZeD,Za,.w 5 ZhN Zdm]) (.next [] 0 [Ze,ZhO,ZhO,Za,.w 5 (.w 6 (.w 8 Zgk ZF) (.w 7 Za (.w 5 ZhN ZaC))) Zdm])) (.fork (.w 11 ZF Za) (.next [] 0 [Ze,.w 8 Zgn ZeD,.w 8 Zgn ZeD,Za,.w 5 ZhP Zdm]) (.next [] 0 [Ze,ZhQ,ZhQ,Za,.w 5 (.w 6 (.w 8 Zgn ZF) (.w 7 Za (.w 5 ZhP ZaC))) Zdm]))
def qrp:TQ:=.fork (.w 10 Zd ZbX) (.next [] 0 [Ze,.w 8 Zc (.u 0 0 ZhR),.w 8 Zc (.u 0 0 ZhR),ZaI,.w 5 Zdn ZhR]) (.next [] 1 [Ze,.w 8 Zc (.u 0 0 ZhS),.w 8 Zc (.u 0 0 ZhS),Za,.w 5 Zdn ZhS])
def qrq:TQ:=.fork (.w 10 Zd ZaN) (.fork (.w 11 ZeF Za) (.next [] 1 [Ze,ZeG,ZeG,ZaI,.w 5 Zdn ZhT]) (.next [] 2 [Ze,ZeG,ZeG,ZeF,ZeF,ZaI,.w 5 Zdn ZhT,.u 1 3 ZeE])) (.fork (.w 11 (.u 0 0 ZhU) Za) (.done [(51,[.mk .l Zf]),(188,[.z])] ZhW) (.done [(51,[.mk .l Zf]),(188,[.z])] (.w 6 (.w 8 (.u 0 0 ZhV) (.u 0 0 ZhU)) (.w 7 Za (.w 5 ZhW ZhU)))))
def qrr:TQ:=.fork (.w 10 Zj ZaN) (.fork (.w 11 Zgo Za) (.next [] 2 [Ze,ZeI,ZeI,Zd,Zf,ZaU,ZhY,Zh]) (.next [] 2 [Ze,ZeI,ZeI,.w 8 Zd Zgo,.w 8 Zd Zgo,ZaU,ZhY,.w 5 Zhv (.u 1 3 ZeH)])) (.fork (.w 11 (.u 0 0 Zh0) Za) (.done [(51,[.mk .l Zs]),(188,[.mk .l Zh])] Zh2) (.done [(51,[.mk .l Zs]),(188,[.mk .l Zh])] (.w 6 (.w 8 (.u 0 0 Zh1) (.u 0 0 Zh0)) (.w 7 Za (.w 5 Zh2 Zh0)))))
theorem qMm:YF PP qcg qes=[qyQ,qrp,qrq,qrr]:=by kernel_rfl
def X0 (z:D) (k:Nat):List Int:=qdu z++((toL (cel z 3)).take k).flatMap shI
def X1 (z:D) (k:Nat):List Int:=qdu z++(toL (cel z 3)).flatMap shI++[(((toL (cel z 9)).length:Nat):Int)]++((toL (cel z 9)).take k).flatMap qeq
def W1 (z:D) (k:Nat):List (List UInt8):=((toL (cel z 9)).take k).flatMap qgO
structure EI (n:Nat) (row:List D) (X:List Int):Prop where
 len:n=row.length
 eq:row.map toI=X
structure EW (n:Nat) (row:List D) (X:List (List UInt8)):Prop where
 len:n=row.length
 eq:row.map toS=X
theorem EI.snoc {n m:Nat} {row es:List D} {X Y:List Int} (h:EI n row X) (hm:es.length=m) (hy:X++es.map toI=Y):EI (n+m) (row.take n++es) Y:=by
 rw[qTX (by rw[h.len]; exact qTF _)];exact⟨by rw[h.len,qTN,hm],by rw[qUC,h.eq,hy]⟩
theorem EW.snoc {n m:Nat} {row es:List D} {X Y:List (List UInt8)} (h:EW n row X) (hm:es.length=m) (hy:X++es.map toS=Y):EW (n+m) (row.take n++es) Y:=by
 rw[qTX (by rw[h.len]; exact qTF _)];exact⟨by rw[h.len,qTN,hm],by rw[qUC,h.eq,hy]⟩
theorem qrs {α:Type} {f:D→List α} {l:List D} {k:Nat} (hk:k<l.length):(l.take k).flatMap f++f (l.getD k .nilp)=(l.take (k+1)).flatMap f:=by
 rw[List.take_succ,List.flatMap_append,qTE hk,List.getD_eq_getElem?_getD,qTE hk];simp
theorem qMn {z:D} {k:Nat} (hk:k<(toL (cel z 3)).length):X0 z k++shI ((toL (cel z 3)).getD k .nilp)=X0 z (k+1):=by
 unfold X0; rw[qTW,qrs hk]
theorem qml {z:D} {k:Nat} (hk:k<(toL (cel z 9)).length):X1 z k++qeq ((toL (cel z 9)).getD k .nilp)=X1 z (k+1):=by
 unfold X1; rw[qTW,qrs hk]
theorem qmm {z:D} {k:Nat} (hk:k<(toL (cel z 9)).length):W1 z k++qgO ((toL (cel z 9)).getD k .nilp)=W1 z (k+1):=qrs hk
theorem qMo {z:D} {k:Nat} (hk:¬k<(toL (cel z 3)).length):X0 z k++[(((toL (cel z 9)).length:Nat):Int)]=X1 z 0:=by
 unfold X0 X1; rw[qTX (by omega)]; simp
theorem qMp {z:D} {k:Nat} (hk:¬k<(toL (cel z 9)).length):X1 z k=qer z:=by
 unfold X1 qer; rw[qTX (by omega)]
theorem qMq {z:D} {k:Nat} (hk:¬k<(toL (cel z 9)).length):W1 z k=(toL (cel z 9)).flatMap qgO:=by
 unfold W1; rw[qTX (by omega)]
theorem qmn {ds:List D} {d:D} {a w:D} {row1 row2:List D} {k:Nat} (hk:¬k<(toL (cel (qa ds 0) 9)).length) {n m:Nat} (h1:EI n row1 (X1 (qa ds 0) k)) (h2:EW m row2 (W1 (qa ds 0) k))
  (ha:qxs [.list row1] a) (hw:qxt [.list row2] w) (hd:toL d=toL a++toL w):qfA ds d:=by
 have ha:toL a=qh (M44.qbz (row1.map toI)):=ha;have hw:toL w=qh (M44.qbA (row2.map toS)):=hw;unfold qfA;rw[hd,ha,hw,h1.eq,h2.eq,qMp hk,qMq hk,M44.qhO]
theorem qMr {ds:List D} {d:D} (h:Ev0 PP qcg qes ds d):qfA ds d:=by
 refine Jf qMm (I:=fun k ρ=>match k with
  | 0=>EI (toN (ρ 1)) (toL (ρ 4)) (X0 (qa ds 0) (toN (ρ 3)))|1=>EI (toN (ρ 1)) (toL (ρ 4)) (X1 (qa ds 0) (toN (ρ 3)))∧EW 0 [] (W1 (qa ds 0) (toN (ρ 3)))|_=>EI (toN (ρ 1)) (toL (ρ 6)) (X1 (qa ds 0) (toN (ρ 5)))∧EW (toN (ρ 3)) (toL (ρ 7)) (W1 (qa ds 0) (toN (ρ 5)))∧0≤toI (ρ 5)) (Q:=qfA ds) ?_ ?_ h
 ·intro k st q ρ d hst hq hg hi ht;have h0:=hg.arg 0 (by decide);rcases k with _|_|_|k
  ·have hq:qrp=q:=by simpa using hq
   subst hq;cases hst;have i3:0≤toI (ρ 3):=hg.inv (.le (.i 0) (.v 3)) (by simp);clear hg;have e3:(toI (ρ 3)+1).toNat=toN (ρ 3)+1:=by unfold toN; omega
   simp[qrp,Yi,Yo,YR,T.den,T.un,T.bi,T.bk,qV,h0,e3,qUl,qUm,-List.getD_eq_getElem?_getD]at ht;rcases ht with⟨hlt,hn⟩|⟨hge,hn⟩
   ·have hlt:=of_decide_eq_true hlt;exact hn (hi.snoc rfl (qMn (by unfold toN; omega)))
   ·have hge:=of_decide_eq_false hge;exact hn (hi.snoc rfl (qMo (by unfold toN; omega))) ⟨rfl,rfl⟩
  ·have hq:qrq=q:=by simpa using hq
   subst hq;cases hst;have i3:0≤toI (ρ 3):=hg.inv (.le (.i 0) (.v 3)) (by simp);clear hg;have e3:(toI (ρ 3)+1).toNat=toN (ρ 3)+1:=by unfold toN; omega
   simp[qrq,Yi,Yo,YR,T.den,T.un,T.bi,T.bk,qV,h0,e3,qUl,qUm,-List.getD_eq_getElem?_getD]at ht;obtain⟨i1,i2⟩:=hi;rcases ht with⟨hlt,⟨hw,hn⟩|⟨_,hn⟩⟩|⟨hge,⟨hw0,⟨hc1,hc2⟩,rfl⟩|⟨hw0,⟨hc1,hc2⟩,rfl⟩⟩
   ·have hlt:=of_decide_eq_true hlt;have hk:toN (ρ 3)<(toL (cel (qa ds 0) 9)).length:=by unfold toN; omega
    refine hn (i1.snoc rfl (qml hk)) ⟨rfl,?_⟩;rw[←qmm hk,←i2.eq];unfold qgO;rw[hw]; rfl
   ·have hlt:=of_decide_eq_true hlt;have hk:toN (ρ 3)<(toL (cel (qa ds 0) 9)).length:=by unfold toN; omega
    refine hn (i1.snoc rfl (qml hk)) ⟨rfl,?_⟩ (by omega);rw[←qmm hk,←i2.eq];rfl
   ·have hge:=of_decide_eq_false hge;refine qmn (by unfold toN; omega) i1 i2 (hc1 qej rfl).2.2 (hc2 qek rfl).2.2 ?_;rw[hw0,qT7]; rfl
   ·have hge:=of_decide_eq_false hge;refine qmn (by unfold toN; omega) i1 i2 (hc1 qej rfl).2.2 (hc2 qek rfl).2.2 ?_;exact qTX (by rw[qTN]; exact qTF _)
  ·have hq:qrr=q:=by simpa using hq
   subst hq;cases hst;obtain⟨i1,i2,i5⟩:=hi;clear hg;have e5:(toI (ρ 5)+1).toNat=toN (ρ 5)+1:=by unfold toN; omega
   simp[qrr,Yi,Yo,YR,T.den,T.un,T.bi,T.bk,qV,h0,e5,qUl,qUm,-List.getD_eq_getElem?_getD]at ht;rcases ht with⟨hlt,⟨hw,hn⟩|⟨_,hn⟩⟩|⟨hge,⟨hw0,⟨hc1,hc2⟩,rfl⟩|⟨hw0,⟨hc1,hc2⟩,rfl⟩⟩
   ·have hlt:=of_decide_eq_true hlt;have hk:toN (ρ 5)<(toL (cel (qa ds 0) 9)).length:=by unfold toN; omega
    refine hn (i1.snoc rfl (qml hk)) ⟨i2.len,?_⟩ (by omega);rw[←qmm hk,←i2.eq];unfold qgO;rw[hw]; simp
   ·have hlt:=of_decide_eq_true hlt;have hk:toN (ρ 5)<(toL (cel (qa ds 0) 9)).length:=by unfold toN; omega
    exact hn (i1.snoc rfl (qml hk)) (i2.snoc rfl (qmm hk)) (by omega)
   ·have hge:=of_decide_eq_false hge;refine qmn (by unfold toN; omega) i1 i2 (hc1 qej rfl).2.2 (hc2 qek rfl).2.2 ?_;rw[hw0,qT7]; rfl
   ·have hge:=of_decide_eq_false hge;refine qmn (by unfold toN; omega) i1 i2 (hc1 qej rfl).2.2 (hc2 qek rfl).2.2 ?_;exact qTX (by rw[qTN]; exact qTF _)
  ·simp at hq
 ·intro d ht;simp[qyQ,Yi,Yo,YR,T.den,T.un,T.bi,T.bk,qV,qUl,qUm,-List.getD_eq_getElem?_getD]at ht;rcases ht with⟨a,⟨b,hn⟩|⟨_,hn⟩⟩|⟨_,⟨b,hn⟩|⟨_,hn⟩⟩
  ·exact hn ⟨by simp,by simp[X0,qdu,a,b]⟩
  ·refine hn (EI.snoc (EI.mk ?_ rfl) rfl ?_)
   ·simp; omega
   ·simp[X0,qdu,a]
  ·refine hn (EI.snoc (EI.snoc (EI.mk ?_ rfl) rfl rfl) rfl ?_)
   ·simp; omega
   ·simp[X0,qdu,b]
  ·refine hn (EI.snoc (EI.snoc (EI.snoc (EI.mk ?_ rfl) rfl rfl) rfl rfl) rfl ?_)
   ·simp; omega
   ·simp[X0,qdu]
theorem qMs:qp PP 185 qmk:=qyP.more fun ds d _ _ h=>⟨fun f hf=>(by cases hf),qMr h⟩
def qgS:Con:={pts:=[qd4,qpF],pre:=[.rows 6 ZaD ZaN Zdk,.rows 6 ZbD ZdQ Zdk],rts:=[.b],post:=[]}
def qmZ:RFn:=mF 224 qgS []
def qm0:Tab:=[(185,qmk)]
theorem qRc:Ye PP 224 qgS (Ev0 PP qmZ qm0):=fe qmZ qm0 (qm qMs (qu)) (by kernel_rfl) ⟨fun ρ=>by kernel_rfl,trivial⟩
def qzv:Con:={qgS with post:=qgS.post++[.imp Zb (.ifF (.has Zbd Zak) (.has Zb0 Zak)),.imp Zb (.ifF ZgY (.le Za Zbh)),.imp Zb (.ifF ZgY (.le Zbh ZaF)),.imp Zb (.ifF (.and ZgY (.le (.u 11 3 ZaD) Z3)) (.le (.u 11 3 ZbD) Zbh)),.imp Zb (.le ZaN ZdQ),.imp Zb (.le ZdQ ZaN),.imp Zb (.le ZbX ZaQ),.imp Zb (.le ZaQ ZbX)]}
def qRd:TQ:=.done [(185,[Zgv]),(185,[Zi4])] (.mk .b (.w 16 (.u 16 0 (.mk .l (.u 3 185 (.w 4 Zgv .z)))) (.u 16 0 (.mk .l (.u 3 185 (.w 4 Zi4 .z))))))
theorem qRe:YF PP qmZ qm0=[qRd]:=by kernel_rfl
theorem qRf (b:ByteArray):∀(n i:Nat) (r:List UInt8),b.size - i=n→ByteArray.toList.loop b i r=r.reverse++b.data.toList.drop i:=by
 intro n
 induction n with
 | zero =>
  intro i r h;rw[ByteArray.toList.loop];have hb:b.size=b.data.toList.length:=rfl;rw[if_neg (by omega),qVf (by omega),qT7]
 | succ n ih =>
  intro i r h;rw[ByteArray.toList.loop];have hb:b.size=b.data.toList.length:=rfl;have hi:i<b.data.toList.length:=by omega
  rw[if_pos (by omega),ih (i+1) _ (by omega),qV7 hi,List.reverse_cons,qTW];have e:b.get! i=b.data.toList[i]:=by
   have hi':i<b.data.size:=hi;show b.data[i]! = _;rw[getElem!_pos b.data i hi'];simp
  rw[e]; rfl
theorem qzw (l:List UInt8):(⟨⟨l⟩⟩:ByteArray).toList=l:=by
 unfold ByteArray.toList;rw[qRf _ _ 0 [] rfl];simp
theorem qm1 {a:Nat} (h:a<128):M44.vb a=[UInt8.ofNat a]:=by rw[M44.vb,dif_pos h]
theorem qm2 {a:Nat} (h:¬a<128):M44.vb a=UInt8.ofNat (a % 128+128)::M44.vb (a / 128):=by rw[M44.vb,dif_neg h]
theorem qzx:∀(a b:Nat) (x y:List UInt8),M44.vb a++x=M44.vb b++y→a=b∧x=y:=by
 intro a
 induction a using Nat.strongRecOn with
 | _ a ih =>
  intro b x y h;have of:∀n:Nat,n<256→(UInt8.ofNat n).toNat=n:=fun n hn=>by simp; omega
  by_cases ha:a<128
  ·by_cases hb:b<128
   ·rw[qm1 ha,qm1 hb]at h;simp only[qVA,qUN]at h;have:=congrArg UInt8.toNat h.1;rw[of a (by omega),of b (by omega)]at this;exact⟨this,h.2⟩
   ·rw[qm1 ha,qm2 hb]at h;simp only[qVA,qUR,qUN]at h;have:=congrArg UInt8.toNat h.1;rw[of a (by omega),of _ (by omega)]at this;omega
  ·by_cases hb:b<128
   ·rw[qm2 ha,qm1 hb]at h;simp only[qVA,qUR,qUN]at h;have:=congrArg UInt8.toNat h.1;rw[of b (by omega),of _ (by omega)]at this;omega
   ·rw[qm2 ha,qm2 hb]at h;simp only[qUR,qUN]at h;have h1:=congrArg UInt8.toNat h.1;rw[of _ (by omega),of _ (by omega)]at h1;obtain⟨h2,h3⟩:=ih (a / 128) (by omega) (b / 128) x y h.2;exact⟨by omega,h3⟩
theorem qzy:∀{l m:List Int} {x y:List UInt8},l.length=m.length→l.flatMap M44.Y8++x=m.flatMap M44.Y8++y→l.map M44.zzA=m.map M44.zzA∧x=y
 | [],[],x,y,_,h=>⟨rfl,by simpa using h⟩
 | a::l,b::m,x,y,hl,h=>by
  rw[qUq,qUq,qTW,qTW]at h;obtain⟨h1,h2⟩:=qzx _ _ _ _ h;obtain⟨h3,h4⟩:=qzy (by simpa using hl) h2;exact⟨by rw[qUa,qUa,h1,h3],h4⟩
 | [],_::_,_,_,hl,_=>by simp at hl
 | _::_,[],_,_,hl,_=>by simp at hl
theorem qm3 {a b:Int} (ha:M44.qK a) (hb:M44.qK b) (h:M44.zzA a=M44.zzA b):a=b:=by
 rw[M44.qva ha,M44.qva hb]at h;have:=congrArg M44.uz h;rwa[M44.qpv,M44.qpv]at this
theorem qgT {a b:Nat} (ha:a≤1073741824) (hb:b≤1073741824) (h:M44.zzA a=M44.zzA b):a=b:=by
 have:=qm3 (qir ha) (qir hb) h;omega
theorem qRg {l m:List Int} {x y:List UInt8} (hl:l.length≤1073741824) (hm:m.length≤1073741824) (h:M44.qbz l++x=M44.qbz m++y):l.map M44.zzA=m.map M44.zzA:=by
 unfold M44.qbz at h;rw[qTW,qTW]at h;obtain⟨h1,h2⟩:=qzx _ _ _ _ h;exact(qzy (qgT hl hm h1) h2).1
def qm4:Y→Nat→Option Y
 | .ec c _,0=>some c|.ec _ r,n+1=>qm4 r n|_,_=>none
theorem qRh {r:Y} {cs:List D} (h:qj r (.list cs)):∀{n:Nat} {y:Y},qm4 r n=some y→qj y (cs.getD n .nilp):=by
 induction r generalizing cs with
 | ec c r _ ih2 =>
  obtain⟨x,xs,e,h1,h2⟩:=h;cases e;intro n y hy;rcases n with _|n
  ·simp[qm4]at hy;subst hy;exact h1
  ·exact ih2 h2 (n:=n) hy
 | _=>intro n y hy; cases n<;>cases hy
theorem qgU {r:Y} {d:D} (h:qj (.g r) d) {n:Nat} {y:Y} (hy:qm4 r n=some y):qj y (cel d n):=by
 obtain⟨cs,rfl,h⟩:=h;exact qRh h hy
structure qgV (a b:D):Prop where
 cnt:M44.zzA (toI (cel a 0))=M44.zzA (toI (cel b 0))
 sh:(toL (cel a 3)).flatMap (fun s=>(shI s).map M44.zzA)=(toL (cel b 3)).flatMap (fun s=>(shI s).map M44.zzA)
 shl:(toL (cel a 3)).length=(toL (cel b 3)).length
 fl:(toL (cel a 9)).flatMap (fun s=>(qeq s).map M44.zzA)=(toL (cel b 9)).flatMap (fun s=>(qeq s).map M44.zzA)
 fll:(toL (cel a 9)).length=(toL (cel b 9)).length
structure qgW (a:D):Prop where
 l1:(toL (cel a 1)).length≤301
 l2:(toL (cel a 2)).length≤301
 l3:(toL (cel a 3)).length≤301
 l9:(toL (cel a 9)).length≤301
theorem qiU {α:Type} {f:D→List α} {k:Nat} (hf:∀s,(f s).length=k):∀l:List D,(l.flatMap f).length=k*l.length
 | []=>by simp
 | a::r=>by rw[qUq,qTN,hf,qiU hf r,qT9,Nat.mul_succ]; omega
theorem qRi {a b:D} (ha:qgW a) (hb:qgW b) (h:(qer a).map M44.zzA=(qer b).map M44.zzA):qgV a b:=by
 unfold qer qdu at h;simp only[qUC,qTW,qUa,qVg,qUR,qUG,qUN]at h;obtain⟨c0,_,_,_,_,_,e1,h⟩:=h;have e1:=qgT (by have:=ha.l1; omega) (by have:=hb.l1; omega) e1;obtain⟨_,h⟩:=qVH h (by simpa using e1);simp only[qUN]at h;obtain⟨e2,h⟩:=h;have e2:=qgT (by have:=ha.l2; omega) (by have:=hb.l2; omega) e2;obtain⟨_,h⟩:=qVH h (by simpa using e2);simp only[qUN]at h;obtain⟨e3,h⟩:=h;have e3:=qgT (by have:=ha.l3; omega) (by have:=hb.l3; omega) e3;obtain⟨hs,h⟩:=qVH h (by rw[qTS,qTS,qiU (k:=2) (fun _=>rfl),qiU (k:=2) (fun _=>rfl),e3]);simp only[qUN]at h;obtain⟨e9,h⟩:=h;have e9:=qgT (by have:=ha.l9; omega) (by have:=hb.l9; omega) e9;rw[List.map_flatMap,List.map_flatMap]at hs h;exact⟨c0,hs,e3,h,e9⟩
theorem qdB {f:D→List Nat} {k:Nat} (hf:∀s,(f s).length=k):∀{l m:List D},l.length=m.length→l.flatMap f=m.flatMap f→∀j,j<l.length→f (l.getD j .nilp)=f (m.getD j .nilp)
 | [],[],_,_,j,hj=>by simp at hj
 | a::l,b::m,hl,h,j,hj=>by
  rw[qUq,qUq]at h;obtain⟨h1,h2⟩:=qVH h (by rw[hf,hf]);rcases j with _|j
  ·exact h1
  ·exact qdB hf (by simpa using hl) h2 j (by simpa using hj)
 | [],_::_,hl,_,_,_=>by simp at hl
 | _::_,[],hl,_,_,_=>by simp at hl
theorem qRj {e1 e2:D} {X Y:List UInt8} (h1:toL e1=qh X) (h2:toL e2=qh Y) (h:toB (T.bi 16 (.str ⟨⟨(toL e1).map unB⟩⟩) (.str ⟨⟨(toL e2).map unB⟩⟩))=true):X=Y:=by
 have h:((⟨⟨(toL e1).map unB⟩⟩:ByteArray).toList==(⟨⟨(toL e2).map unB⟩⟩:ByteArray).toList)=true:=h;rw[h1,h2,quB,quB,qzw,qzw]at h;exact eq_of_beq h
theorem qRk {ds:List D} {d:D} (h:Ev0 PP qmZ qm0 ds d) (hd:toB d=true) (ha:qgW (qa ds 0)) (hb:qgW (qa ds 1)):qgV (qa ds 0) (qa ds 1):=by
 refine Jf qRe (I:=fun k ρ=>False) (Q:=fun d=>toB d=true→qgV (qa ds 0) (qa ds 1)) (fun k st q ρ d hst hq hg hi ht=>hi.elim) ?_ h hd;intro d ht hd;obtain⟨⟨c1,c2,_⟩,e⟩:=ht;subst e;have f1:qfA _ _:=(c1 qmk rfl).2.2;have f2:qfA _ _:=(c2 qmk rfl).2.2;have hl:∀z,qgW z→(qer z).length≤1073741824:=fun z hz=>by
  have:=hz.l1;have:=hz.l2;have:=hz.l3;have:=hz.l9;unfold qer qdu;simp only[qTN,qTS,qT9,qV1,qiU (f:=shI) (k:=2) (fun _=>rfl),qiU (f:=qeq) (k:=4) (fun _=>rfl)];omega
 exact qRi ha hb (qRg (hl _ ha) (hl _ hb) (qRj f1 f2 hd))
theorem qzz {a:D} (h:qj qd4 a):qgW a:=by
 have g:∀{n:Nat} {e:Y},qj (.l 301 e) (cel a n)→(toL (cel a n)).length≤301:=fun{n e} h=>by
  obtain⟨es,he,hl,_⟩:=h;rw[he]; exact hl
 exact⟨g (qgU h (n:=1) rfl),g (qgU h (n:=2) rfl),g (qgU h (n:=3) rfl),g (qgU h (n:=9) rfl)⟩
theorem qsn {d:D} (h:qj (.rg (-9223372036854775808) 9223372036854775807) d):M44.qK (toI d)∧d=.int .i64 (toI d):=by
 obtain⟨n,rfl,h1,h2⟩:=h;exact⟨⟨h1,h2⟩,rfl⟩
theorem qRl {a b:D} (h:qgV a b) (ha:qj (.l 8 (qb3 301 301)) (cel a 3)) (hb:qj (.l 301 (.g (.ec (yJ 0) (.ec (yJ 0) .e0)))) (cel b 3)):cel a 3=cel b 3:=by
 obtain⟨l,el,_,tl⟩:=ha;obtain⟨m,em,_,tm⟩:=hb;have hl:=h.shl;have hs:=h.sh;rw[el,em]at hl hs;rw[el,em];have hl:l.length=m.length:=hl
 congr 1
 refine qU6 hl fun j h1 h2=>?_
 have hg:=qdB (f:=fun s=>(shI s).map M44.zzA) (k:=2) (fun _=>rfl) hl hs j h1;rw[List.getD_eq_getElem?_getD,qTE h1,List.getD_eq_getElem?_getD,qTE h2]at hg;simp only[shI,qTT,qUa,qVg,qUN,and_true]at hg;have t1:=tl _ (qTL h1);have t2:=tm _ (qTL h2);generalize l[j]=x at hg t1 ⊢;generalize m[j]=y at hg t2 ⊢;obtain⟨⟨cs,rfl,c0,r0,e0,⟨n0,hn0⟩,c1,r1,e1,⟨n1,hn1⟩,e2⟩,hr⟩:=t1;cases e0; cases e1; cases e2;subst hn0 hn1;obtain⟨cs',rfl,d0,s0,f0,k0,d1,s1,f1,k1,f2⟩:=t2;cases f0; cases f1; cases f2;obtain⟨p0,q0⟩:=qsn k0;obtain⟨p1,q1⟩:=qsn k1;have r0:(0:Int)≤n0:=hr (false,.i 0,.u 1 0 (.v 0)) (by simp[shR]);have r1:n0≤n1:=hr (false,.u 1 0 (.v 0),.u 1 1 (.v 0)) (by simp[shR]);have r2:n1≤134217728:=hr (false,.u 1 1 (.v 0),.i 134217728) (by simp[shR]);have g0:M44.zzA n0=M44.zzA (toI d0):=hg.1;have g1:M44.zzA n1=M44.zzA (toI d1):=hg.2;have i0:=qm3 (by unfold M44.qK; omega) p0 g0;have i1:=qm3 (by unfold M44.qK; omega) p1 g1;rw[q0,q1,←i0,←i1]
theorem qzA {k:Nat}:∀{l m:List D},l.length=m.length→(∀j,j<l.length→(toL (cel (l.getD j .nilp) k)).length=(toL (cel (m.getD j .nilp) k)).length)→qaC k l=qaC k m
 | [],[],_,_=>rfl|a::l,b::m,hl,h=>by
  have h0:(toL (cel a k)).length=(toL (cel b k)).length:=h 0 (by simp);have:=qzA (k:=k) (l:=l) (m:=m) (by simpa using hl) fun j hj=>h (j+1) (by simpa using hj)
  unfold qaC;rw[h0,this]
 | [],_::_,hl,_=>by simp at hl
 | _::_,[],hl,_=>by simp at hl
theorem qRm {a b:D} (h:qgV a b) (hw:∀j,j<(toL (cel a 9)).length→(toL (cel ((toL (cel a 9)).getD j .nilp) 3)).length≤8192) (hw':∀j,j<(toL (cel b 9)).length→(toL (cel ((toL (cel b 9)).getD j .nilp) 3)).length≤8192):qaC 3 (toL (cel a 9))=qaC 3 (toL (cel b 9)):=by
 refine qzA h.fll fun j hj=>?_
 have hg:=qdB (f:=fun s=>(qeq s).map M44.zzA) (k:=4) (fun _=>rfl) h.fll h.fl j hj;simp only[qeq,qUa,qVg,qUN,and_true]at hg;exact qgT (by have:=hw j hj; omega) (by have:=hw' j (by rw[←h.fll]; exact hj); omega) hg.2.2.2
theorem qRn:qp PP 224 qzv:=qRc.more fun ds d hp hr h=>by
 refine⟨fun f hf=>?_,trivial⟩;obtain⟨a,b,rfl⟩:∃a b,ds=[a,b]:=by
  match ds,hp.1.1 with
  | [a,b],_=>exact⟨a,b,rfl⟩
 have ta:qj qd4 a:=hp.1.2 0 _ rfl;have tb:qj qpF b:=hp.1.2 1 _ rfl;have tb':qj qd4 b:=Y.sub_ok (a:=qpF) (by decide) tb;have w0:∀j,j<(toL (cel a 9)).length→(toL (cel ((toL (cel a 9)).getD j .nilp) 3)).length≤8192:=fun j hj=>hp.2 (.rows 6 (.u 1 9 (.v 0)) (.u 0 0 (.u 1 9 (.v 0))) (.i 8192)) (by simp[qgS]) j hj hj
 have w1:∀j,j<(toL (cel b 9)).length→(toL (cel ((toL (cel b 9)).getD j .nilp) 3)).length≤8192:=fun j hj=>hp.2 (.rows 6 (.u 1 9 (.v 1)) (.u 0 0 (.u 1 9 (.v 1))) (.i 8192)) (by simp[qgS]) j hj hj
 have S:toB d=true→qgV a b:=fun hd=>qRk h hd (qzz ta) (qzz tb')
 have hc:M44.qK (toI (cel b 0)):=(qsn (qgU tb (n:=0) rfl)).1;have C:toB d=true→0≤toI (cel a 0)→toI (cel a 0)≤4096→toI (cel a 0)=toI (cel b 0):=fun hd h0 h1=>qm3 (by unfold M44.qK; omega) hc (S hd).cnt
 simp only[qTD,qTJ,or_false]at hf;rcases hf with rfl|rfl|rfl|rfl|rfl|rfl|rfl|rfl
 ·intro hd hs;have hs:qj (.l 8 (qb3 301 301)) (cel a 3):=hs;show qj (.l 8 (qb3 301 301)) (cel b 3);rw[←qRl (S hd) hs (qgU tb (n:=3) rfl)];exact hs
 ·rintro hd ⟨h0,h1⟩
  have:=C hd h0 h1;show 0≤toI (cel b 0);rw[←this]; exact h0
 ·rintro hd ⟨h0,h1⟩
  have:=C hd h0 h1;show toI (cel b 0)≤4096;rw[←this]; exact h1
 ·rintro hd ⟨⟨h0,h1⟩,h2⟩
  have:=C hd h0 h1;show((qaC 3 (toL (cel b 9)):Nat):Int)≤toI (cel b 0);rw[←this,←qRm (S hd) w0 w1]; exact h2
 ·intro hd;exact qU7 (congrArg Int.ofNat (S hd).fll)
 ·intro hd;exact qU7 (congrArg Int.ofNat (S hd).fll.symm)
 ·intro hd;exact qU7 (congrArg Int.ofNat (S hd).shl)
 ·intro hd;exact qU7 (congrArg Int.ofNat (S hd).shl.symm)
def qro:Con:={pts:=[Zc9],pre:=[],rts:=[.l 1000000 .y8],post:=[]}
def qMe:RFn:=mF 100 qro [⟨6,[(1,Zc4),(3,.o (.sl 1 1 Za Zc Zb false)),(4,Zbo),(5,Zbc)],[Zgg,.dat 1 Zd false],[Zc9,.i .i64,.i .i64,ZeC],[ZaM,.le Za Zdi,.le ZX (.w 0 (.i 400) (.w 2 ZY Za)),.nle Zab ZX,.nle ZX Zab,ZcD,.le Za (.w 2 ZY Za),ZG,ZC,ZB],(Za,.w 1 Zdi Za,Zk,Za,Za,Za)⟩,⟨6,[(1,Zc4),(3,.o (.sl 1 1 Za Zc Zb false)),(4,ZhK),(5,ZbS)],[Zgg,Zdj,Zc0],[Zc9,.i .i64,.i .i64,.i .i64,.i .i64,.i .i64,ZeC,.l 100000 Zcf],[Zcz,.le Zj Zdi,.le ZX (.w 0 (.i 400) (.w 2 ZY Zj)),.nle Z4 ZX,.nle ZX Z4,ZcD,.le Zaa (.w 2 ZY Zj),.nle Zbp Zaa,ZcE,.nle Zf Zaa],(Za,.w 1 Zdi Zj,Zk,Za,Za,Za)⟩]
def qMf:Tab:=[(51,qej),(188,qek)]
theorem qMg:qp PP 100 qro:=(fe qMe qMf (qm qxy (qm qxz (qu))) (by kernel_rfl) (by refine⟨?_,?_,?_,trivial⟩<;>intro<;>kernel_rfl)).ok
end Go.Aev.R29
end
noncomputable section
namespace Go.Aev.R29
open Go Go.Aev Go.Aev.R
def qfH:Con:={pts:=[Zv,ZK,Zd3,.i .i64],pre:=[.le Zd (.i 100)],rts:=[.b],post:=[.imp Zf (.has Zb qkK),.imp Zf Ze9,.imp Zf Ze8]}
def qnj:RFn:={g:=147,con:=qfH,wr:=false,pn:=14,rec':={ms:=[(147,Zd)],cur:=Zd},sts:=[{id:=9,env:=[(1,.o (.c .l Zc)),(3,Zbb),(4,Zc4),(6,ZbL),(10,Zcj)],rows:=[Zp,.box [ZgK,.c .l (.u 1 1 Zb),.c .l (.u 1 2 Zb),.c .l (.u 1 3 Zb),Zaz,ZbE,ZaA,.c (.i .i64) ZdR,Zio,.c .l (.u 1 9 Zb),.c .l Zcb,.c .l (.u 1 11 Zb)] false],tys:=[Zv,ZK,Zd3,.i .i64,.i .i64],inv:=[ZaH,Zbs,.nle Zg (.u 0 0 Zcb),.le Zf (.u 0 0 Zcb),.pre Zcb Zf qkK,.rows 904 Zcb Zf ZF],ms:=(Za,.w 1 (.u 0 0 Zcb) Zf,Zk,Za,Za,Za)}]}
def qnk:Tab:=[(220,qiF),(224,qzv),(226,qnh),(225,qmD)]
theorem qSN:qaU PP qnk:=qm qrg (qm qRn (qm qzO (qm qzc (qu))))
theorem qSO:qaj PP qnj ((147,qfH)::qnk)=true:=by kernel_rfl
theorem qSP:qak PP qnj ((147,qfH)::qnk) (qI PP qnj):=by refine⟨?_,?_,trivial⟩<;>intro<;>kernel_rfl
theorem qSQ:Ye PP 147 qfH (Ev0 PP qnj ((147,qfH)::qnk)):=qgn YN mixed qSN rfl qSO qSP
theorem qSR:qp PP 147 qfH:=qSQ.ok
def qra:Con:={pts:=[Zv,ZK,Zd3],pre:=[],rts:=[.b],post:=[]}
def qKo:RFn:=mF 81 qra []
def qKp:Tab:=[(147,qfH)]
theorem qKq:qp PP 81 qra:=(fe qKo qKp (qm qSR (qu)) (by kernel_rfl) ⟨fun ρ=>by kernel_rfl,trivial⟩).ok
def u32 (n:Int):Int:=IntKind.u32.wrap n
def YI (a:Int) (s:Nat):Int:=u32 (a*2 ^ s)
def qbK (a:Int) (s:Nat):Int:=a.fdiv (2 ^ s)
def qD (a b:Int):Int:=u32 (a+b)
def Jx (x:Int) (n:Nat):Int:=M44.orI (qbK x n) (YI x (32 - n))
def gw (ws:List D) (i:Nat):Int:=toI (ws.getD i .nilp)
def fW (f:List D→Nat→Int):Nat→List D
 | 0=>List.replicate 64 (.int .u32 0)|t+1=>(fW f t).set t (.int .u32 (f (fW f t) t))
def qyn (r:Int→Nat→Int) (ws:List D) (t:Nat):Int :=
 qD (qD (qD (gw ws (t - 16)) (M44.qF (M44.qF (r (gw ws (t - 15)) 7) (r (gw ws (t - 15)) 18)) (qbK (gw ws (t - 15)) 3))) (gw ws (t - 7))) (M44.qF (M44.qF (r (gw ws (t - 2)) 17) (r (gw ws (t - 2)) 19)) (qbK (gw ws (t - 2)) 10))
def wS (b:List D) (ws:List D) (t:Nat):Int:=match Nat.blt t 16 with
 | true=>M44.orI (M44.orI (M44.orI (YI (u32 (gw b (4*t))) 24) (YI (u32 (gw b (4*t+1))) 16)) (YI (u32 (gw b (4*t+2))) 8)) (u32 (gw b (4*t+3)))|false=>qyn Jx ws t
theorem qix (f:List D→Nat→Int) (t:Nat):fW f (t+1)=(fW f t).set t (.int .u32 (f (fW f t) t)):=rfl
theorem qyo {b ws:List D} {t:Nat} (h:Nat.blt t 16=true):wS b ws t=M44.orI (M44.orI (M44.orI (YI (u32 (gw b (4*t))) 24) (YI (u32 (gw b (4*t+1))) 16)) (YI (u32 (gw b (4*t+2))) 8)) (u32 (gw b (4*t+3))):=by
 unfold wS; rw[h]
theorem qyp {b ws:List D} {t:Nat} (h:Nat.blt t 16=false):wS b ws t=qyn Jx ws t:=by
 unfold wS; rw[h]
theorem qgK (f:List D→Nat→Int):∀t,(fW f t).length=64
 | 0=>by simp[fW]
 | t+1=>by unfold fW; rw[qUI,qgK f t]
theorem qiy (f:List D→Nat→Int):∀t,∀x∈fW f t,∃n:Int,x=.int .u32 n
 | 0,x,h=>by
  have:=qVK h;exact⟨0,this⟩
 | t+1,x,h=>by
  unfold fW at h;rcases qVb h with h|h
  ·exact qiy f t x h
  ·exact⟨_,h⟩
theorem qiz {m:Nat} (hm:m<4294967296):u32 m=m:=by
 unfold u32;simp[IntKind.wrap,IntKind.bits,IntKind.signed];omega
theorem qfw {m n:Nat} (hm:m<4294967296) (hn:n<4294967296):M44.orI m n=((m|||n:Nat):Int):=by
 have e:(BitVec.ofInt 32 (m:Int)|||BitVec.ofInt 32 (n:Int)).toNat=m|||n:=by
  rw[BitVec.toNat_or];simp[BitVec.ofInt_natCast,qVN hm,qVN hn]
 show IntKind.u32.wrap ((BitVec.ofInt 32 (m:Int)|||BitVec.ofInt 32 (n:Int)).toNat:Int)=_;rw[e];exact qiz (Nat.or_lt_two_pow (n:=32) hm hn)
theorem qq9 {m s:Nat} (h:m*2 ^ s<4294967296):YI m s=((m*2 ^ s:Nat):Int):=by
 unfold YI;have:((m:Int)*2 ^ s)=((m*2 ^ s:Nat):Int):=by push_cast; rfl
 rw[this]; exact qiz h
theorem ql3 {m n k:Nat} (hm:m<2 ^ k) (hn:n<2 ^ k):m|||n<2 ^ k:=Nat.or_lt_two_pow hm hn
theorem qiA {m:Nat} (h:m<16777216):YI m 8=((m*256:Nat):Int):=qq9 (m:=m) (s:=8) (by omega)
theorem qKi {m:Nat} (h:m<65536):YI m 16=((m*65536:Nat):Int):=qq9 (m:=m) (s:=16) (by omega)
theorem qKj {m:Nat} (h:m<256):YI m 24=((m*16777216:Nat):Int):=qq9 (m:=m) (s:=24) (by omega)
theorem qKk (a b c d:Nat):((a*256|||b)*256|||c)*256|||d=a*16777216|||b*65536|||c*256|||d:=by
 have e8:∀n:Nat,n*256=n<<<8:=fun n=>(qWx n 8).symm
 have e16:∀n:Nat,n*65536=n<<<16:=fun n=>(qWx n 16).symm
 have e24:∀n:Nat,n*16777216=n<<<24:=fun n=>(qWx n 24).symm
 simp only[e8,e16,e24,Nat.shiftLeft_or_distrib,←Nat.shiftLeft_add]
theorem qKl {a b c d:Nat} (ha:a<256) (hb:b<256) (hc:c<256) (hd:d<256) :
  M44.orI (YI (M44.orI (YI (M44.orI (YI (M44.orI (YI 0 8) (u32 a)) 8) (u32 b)) 8) (u32 c)) 8) (u32 d)=M44.orI (M44.orI (M44.orI (YI (u32 a) 24) (YI (u32 b) 16)) (YI (u32 c) 8)) (u32 d):=by
 have z:YI 0 8=((0:Nat):Int):=qiA (m:=0) (by decide);have k0:M44.orI ((0:Nat):Int) (a:Int)=(a:Int):=by rw[qfw (by omega) (by omega),Nat.zero_or]
 have b1:a*256|||b<65536:=ql3 (k:=16) (by omega) (by omega);have k1:M44.orI ((a*256:Nat):Int) (b:Int)=((a*256|||b:Nat):Int):=qfw (by omega) (by omega);have b2:(a*256|||b)*256|||c<16777216:=ql3 (k:=24) (by omega) (by omega);have k2:M44.orI (((a*256|||b)*256:Nat):Int) (c:Int)=(((a*256|||b)*256|||c:Nat):Int):=qfw (by omega) (by omega);have k3:M44.orI ((((a*256|||b)*256|||c)*256:Nat):Int) (d:Int)=((((a*256|||b)*256|||c)*256|||d:Nat):Int):=qfw (by omega) (by omega);have g4:a*16777216|||b*65536<4294967296:=ql3 (k:=32) (by omega) (by omega);have g5:a*16777216|||b*65536|||c*256<4294967296:=ql3 (k:=32) (by omega) (by omega);have m1:M44.orI ((a*16777216:Nat):Int) ((b*65536:Nat):Int)=((a*16777216|||b*65536:Nat):Int):=qfw (by omega) (by omega);have m2:M44.orI ((a*16777216|||b*65536:Nat):Int) ((c*256:Nat):Int)=((a*16777216|||b*65536|||c*256:Nat):Int):=qfw (by omega) (by omega);have m3:M44.orI ((a*16777216|||b*65536|||c*256:Nat):Int) (d:Int)=((a*16777216|||b*65536|||c*256|||d:Nat):Int):=qfw (by omega) (by omega);rw[qiz (show a<4294967296 by omega),qiz (show b<4294967296 by omega),qiz (show c<4294967296 by omega),qiz (show d<4294967296 by omega),z,k0,qiA (show a<16777216 by omega),k1,qiA (show a*256|||b<16777216 by omega),k2,qiA b2,k3,qKj ha,qKi (show b<65536 by omega),qiA (show c<16777216 by omega),m1,m2,m3,qKk]
theorem qKm (a b:Int):M44.orI a b=M44.orI b a:=by unfold M44.orI; rw[BitVec.or_comm]
theorem qfx (x:Int) (n:Nat):M44.qA x (32 - n) n=Jx x n:=qKm _ _
theorem qyq (f:List D→Nat→Int):∀{t j:Nat},t≤j→j<64→(fW f t).getD j .nilp=.int .u32 0
 | 0,j,_,hj=>by
  unfold fW;rw[List.getD_eq_getElem?_getD,qWa,if_pos hj]; rfl
 | t+1,j,h,hj=>by
  rw[qix,List.getD_eq_getElem?_getD,qUF (by omega),←List.getD_eq_getElem?_getD];exact qyq f (by omega) hj
theorem qKn (f:List D→Nat→Int) {t:Nat} (h:t<64):(fW f t).set t (.int .u32 0)=fW f t:=by
 refine qU6 (by simp) fun j h1 h2=>?_
 rw[List.getElem_set];split
 ·rename_i e;subst e;have:=qyq f (qTF t) h;rw[List.getD_eq_getElem?_getD,qTE h2]at this;exact this.symm
 ·rfl
def qiB (b:List D) (t:Nat):Nat→Int
 | 0=>0|j+1=>M44.orI (YI (qiB b t j) 8) (u32 (gw b (4*t+j)))
theorem ql4 {ws:List D} (hl:ws.length=64) (hi:∀x∈ws,∃n:Int,x=.int .u32 n):((List.range 64).map fun i=>(K.i .u32).den (ws.getD i .nilp))=ws:=by
 refine qU6 (by simp[hl]) fun j h1 h2=>?_
 rw[qVI,qVJ,List.getD_eq_getElem?_getD,qTE h2];obtain⟨n,hn⟩:=hi _ (qTL h2);rw[qTT,hn];rfl
def YZ (a b:Int):Int:=IntKind.u32.wrap (BitVec.ofInt 32 a&&&BitVec.ofInt 32 b).toNat
theorem qyh (a b:Int):M44.qF a b=M44.qF b a:=by unfold M44.qF; rw[BitVec.xor_comm]
def wd (n:Int):D:=.int .u32 n
def kL:List D:=[wd 1116352408,wd 1899447441,wd 3049323471,wd 3921009573,wd 961987163,wd 1508970993,wd 2453635748,wd 2870763221,wd 3624381080,wd 310598401,wd 607225278,wd 1426881987,wd 1925078388,wd 2162078206,wd 2614888103,wd 3248222580,wd 3835390401,wd 4022224774,wd 264347078,wd 604807628,wd 770255983,wd 1249150122,wd 1555081692,wd 1996064986,wd 2554220882,wd 2821834349,wd 2952996808,wd 3210313671,wd 3336571891,wd 3584528711,wd 113926993,wd 338241895,wd 666307205,wd 773529912,wd 1294757372,wd 1396182291,wd 1695183700,wd 1986661051,wd 2177026350,wd 2456956037,wd 2730485921,wd 2820302411,wd 3259730800,wd 3345764771,wd 3516065817,wd 3600352804,wd 4094571909,wd 275423344,wd 430227734,wd 506948616,wd 659060556,wd 883997877,wd 958139571,wd 1322822218,wd 1537002063,wd 1747873779,wd 1955562222,wd 2024104815,wd 2227730452,wd 2361852424,wd 2428436474,wd 2756734187,wd 3204031479,wd 3329325298]
def sg (x:Int) (a b c:Nat):Int:=M44.qF (M44.qF (Jx x a) (Jx x b)) (Jx x c)
def t1S (k w:Int) (v:List D):Int:=qD (qD (qD (qD (gw v 7) (sg (gw v 4) 6 11 25)) (M44.qF (YZ (gw v 4) (gw v 5)) (YZ (M44.qF (gw v 4) 4294967295) (gw v 6)))) k) w
def t2S (v:List D):Int:=qD (sg (gw v 0) 2 13 22) (M44.qF (M44.qF (YZ (gw v 0) (gw v 1)) (YZ (gw v 0) (gw v 2))) (YZ (gw v 1) (gw v 2)))
def qiw (k w:Int) (v:List D):List D :=
 [wd (qD (t1S k w v) (t2S v)),wd (gw v 0),wd (gw v 1),wd (gw v 2),wd (qD (gw v 3) (t1S k w v)),wd (gw v 4),wd (gw v 5),wd (gw v 6)]
def qaE (w:List D) (s:List D):Nat→List D
 | 0=>s|i+1=>qiw (gw kL i) (gw w i) (qaE w s i)
def qac (s:List D):Prop:=∃a b c d e f g h:Int,s=[wd a,wd b,wd c,wd d,wd e,wd f,wd g,wd h]
theorem ql1 (w:List D) {s:List D} (hs:qac s):∀n,qac (qaE w s n)
 | 0=>hs|n+1=>⟨_,_,_,_,_,_,_,_,rfl⟩
def qft (v s:List D):Nat→List D
 | 0=>s|i+1=>(qft v s i).set i (wd (qD (gw (qft v s i) i) (gw v i)))
def qfu (A E s:List D):Nat→List D
 | 0=>s|i+1 =>
  ((qfu A E s i).set i (wd (qD (gw (qfu A E s i) i) (gw A i)))).set (i+4) (wd (qD (gw ((qfu A E s i).set i (wd (qD (gw (qfu A E s i) i) (gw A i)))) (i+4)) (gw E i)))
theorem qJE {v s:List D} (hv:qac v) (hs:qac s):qfu (v.take 4) (v.drop 4) s 4=qft v s 8:=by
 obtain⟨a,b,c,d,e,f,g,h,rfl⟩:=hv;obtain⟨a',b',c',d',e',f',g',h',rfl⟩:=hs;rfl
theorem qyi {v s:List D} (hv:qac v) (hs:qac s):qac (qft v s 8):=by
 obtain⟨a,b,c,d,e,f,g,h,rfl⟩:=hv;obtain⟨a',b',c',d',e',f',g',h',rfl⟩:=hs;exact⟨_,_,_,_,_,_,_,_,rfl⟩
def qaF (b s:List D):List D:=qft (qaE (fW (wS b) 64) s 64) s 8
theorem qJF (b:List D) {s:List D} (hs:qac s):qac (qaF b s):=qyi (ql1 _ hs _) hs
def wds (d:D):List D:=[wd (toI (cel d 0)),wd (toI (cel d 1)),wd (toI (cel d 2)),wd (toI (cel d 3)),wd (toI (cel d 4)),wd (toI (cel d 5)),wd (toI (cel d 6)),wd (toI (cel d 7))]
theorem qyj (d:D):qac (wds d):=⟨_,_,_,_,_,_,_,_,rfl⟩
theorem qJG {s:List D} (h:qac s):wds (.agg s)=s:=by
 obtain⟨a,b,c,d,e,f,g,h,rfl⟩:=h;rfl
theorem qJH {s:List D} (h:qac s):[wd (gw s 0),wd (gw s 1),wd (gw s 2),wd (gw s 3),wd (gw s 4),wd (gw s 5),wd (gw s 6),wd (gw s 7)]=s:=by
 obtain⟨a,b,c,d,e,f,g,h,rfl⟩:=h;rfl
end Go.Aev.R29
end
noncomputable section
namespace Go.Aev.R29
open Go Go.Aev Go.Aev.R
variable [PW]
def qrN (s:D):List D:=qh (M44.qH (toS s))
def inP (k:Int) (l:List D) (i:Nat):List D:=.int .u8 (IntKind.u8.wrap k)::((l.take i).map qrN).flatten
theorem qy8 (k:Int) {l:List D} {i:Nat} (h:i<l.length):inP k l (i+1)=inP k l i++qrN (l.getD i .nilp):=by
 unfold inP;rw[List.take_succ_eq_append_getElem h,qUC,List.flatten_append,List.getD_eq_getElem?_getD,qTE h];simp
def qmA (ds:List D) (d:D):Prop:=d=.list (inP (toI (qa ds 0)) (toL (qa ds 1)) (toL (qa ds 1)).length)
structure qOO (k:Int) (l:List D) (ρ:Nat→D):Prop where
 lo:0≤toI (ρ 2)
 hi:toI (ρ 2)≤l.length
 o:inP k l (toN (ρ 2))=[.int .u8 (IntKind.u8.wrap k)]
structure qOP (k:Int) (l:List D) (ρ:Nat→D):Prop where
 lo:0≤toI (ρ 4)
 hi:toI (ρ 4)≤l.length
 n:toN (ρ 2)=(inP k l (toN (ρ 4))).length
 o:toL (ρ 5)=inP k l (toN (ρ 4))
def qiK:Con:={pts:=[.i .i64,ZgH],pre:=[],rts:=[Zbl],post:=[]}
def qmB:RFn:=mF 109 qiK [⟨3,[(1,.o (.c .l Zc)),(5,.o (.sl 0 1 Za Zg Zg true)),(6,Zbr)],[.dat 1 Zfb false],[.i .i64,ZgH,.i .i64],[ZZ,Zfc,.le Zbg (.w 0 Zg (.w 2 (.i 1000000010) Zb)),.nle (.w 0 Za Zbg) (.u 0 0 Zfb),.nle Zg Zbg],(Za,.w 1 Zi Zb,Zk,Za,Za,Za)⟩,⟨3,[(1,.o (.c .l Zc)),(5,.o (.sl 0 1 Za Zb Zd false)),(6,Zcj)],[.dat 1 Zj false],[.i .i64,ZgH,.i .i64,.i .i64,.i .i64,Zbl],[ZaH,.le Zf Zi,.le Zca (.w 0 Zg (.w 2 (.i 1000000010) Zf)),.nle (.w 0 Za Zca) Zav,.nle Zd Zca],(Za,.w 1 Zi Zf,Zk,Za,Za,Za)⟩]
def qaX:Tab:=[(191,qfj)]
theorem qOQ:Ye PP 109 qiK (Ev0 PP qmB qaX):=fe qmB qaX (qm qHZ (qu)) (by kernel_rfl) (by refine⟨?_,?_,?_,trivial⟩<;>intro<;>kernel_rfl)
def qrO:Con:={qiK with post:=qiK.post++[],fact:=qmA}
def qOR:TQ:=.next [] 0 [Ze,Zc,Za]
def qy9:TQ:=.fork (.w 10 Zb Zi) (.fork (.w 11 (.u 0 0 Zik) Za) (.next [(191,[.mk .s (.w 3 Zc Zb)])] 0 [Ze,Zc,Zc1]) (.next [(191,[.mk .s (.w 3 Zc Zb)])] 1 [Ze,Zc,.w 8 Zg (.u 0 0 Zik),.w 8 Zg (.u 0 0 Zik),Zc1,.w 5 Zfb Zik])) (.done [] Zfb)
def qza:TQ:=.fork (.w 10 Zf Zi) (.fork (.w 11 (.u 0 0 Zil) Za) (.next [(191,[.mk .s (.w 3 Zc Zf)])] 1 [Ze,Zc,Zb,Zd,ZdP,Zj]) (.next [(191,[.mk .s (.w 3 Zc Zf)])] 1 [Ze,Zc,.w 8 Zb (.u 0 0 Zil),.w 8 Zb (.u 0 0 Zil),ZdP,.w 5 ZgI Zil])) (.done [] ZgI)
theorem qOS:YF PP qmB qaX=[qOR,qy9,qza]:=by kernel_rfl
theorem qOT {ds:List D} {d:D} (hp:qM qiK ds) (h:Ev0 PP qmB qaX ds d):qmA ds d:=by
 refine Jf qOS (I:=fun k ρ=>match k with
  | 0=>qOO (toI (qa ds 0)) (toL (qa ds 1)) ρ|_=>qOP (toI (qa ds 0)) (toL (qa ds 1)) ρ) (Q:=qmA ds) ?_ ?_ h
 ·intro k st q ρ d hst hq hg hi ht;have h0:=hg.arg 0 (by decide);have h1:=hg.arg 1 (by decide);rcases k with _|_|k
  ·have hq:qy9=q:=by simpa using hq
   subst hq;obtain⟨i1,i2,i3⟩:=hi;rcases ht with⟨hlt,ht⟩|⟨hge,_,rfl⟩
   ·have hlt:decide (toI (ρ 2)<((toL (ρ 1)).length:Int))=true:=hlt;have hlt:=of_decide_eq_true hlt;rw[h1]at hlt;have e1:(toI (ρ 2)+1).toNat=toN (ρ 2)+1:=by unfold toN; omega
    have el:toN (ρ 2)<(toL (qa ds 1)).length:=by unfold toN; omega
    have key:∀e:D,qfi [.str ⟨⟨toS ((toL (ρ 1)).getD (toN (ρ 2)) .nilp)⟩⟩] e→inP (toI (qa ds 0)) (toL (qa ds 1)) (toN (ρ 2)+1)=[.int .u8 (IntKind.u8.wrap (toI (qa ds 0)))]++toL e:=by
     intro e he;have he:toL e=qh (M44.qH (toS ((toL (ρ 1)).getD (toN (ρ 2)) .nilp))):=he;rw[qy8 _ el,i3,he,h1];rfl
    rcases ht with⟨hz,hc,hn⟩|⟨hz,hc,hn⟩
    ·obtain⟨c1,_⟩:=hc;have f1:qfi _ _:=(c1 qfj rfl).2.2;have k1:=key _ f1;have hz:decide (((toL (wOf PP qaX 191 [.str ⟨⟨toS ((toL (ρ 1)).getD (toN (ρ 2)) .nilp)⟩⟩])).length:Int)≤0)=true:=hz;have hz:=of_decide_eq_true hz;have hz2:toL (wOf PP qaX 191 [.str ⟨⟨toS ((toL (ρ 1)).getD (toN (ρ 2)) .nilp)⟩⟩])=[]:=qUr (by omega);refine hn ⟨?_,?_,?_⟩
     ·show 0≤toI (ρ 2)+1;omega
     ·show toI (ρ 2)+1≤_;omega
     ·show inP _ _ (toI (ρ 2)+1).toNat=_;rw[e1,k1];show _++toL (wOf PP qaX 191 [.str ⟨⟨toS ((toL (ρ 1)).getD (toN (ρ 2)) .nilp)⟩⟩])=_;rw[hz2,qT7]
    ·obtain⟨c1,_⟩:=hc;have f1:qfi _ _:=(c1 qfj rfl).2.2;have k1:=key _ f1;refine hn ⟨?_,?_,?_,?_⟩
     ·show 0≤toI (ρ 2)+1;omega
     ·show toI (ρ 2)+1≤_;omega
     ·show((((1:Int).toNat+((toL (wOf PP qaX 191 [.str ⟨⟨toS ((toL (ρ 1)).getD (toN (ρ 2)) .nilp)⟩⟩])).length:Int).toNat:Nat):Int)).toNat=(inP _ _ (toI (ρ 2)+1).toNat).length;rw[e1,k1,qTN,qTK,qTK];rfl
     ·show[.int .u8 (IntKind.u8.wrap (toI (ρ 0)))]++toL (wOf PP qaX 191 [.str ⟨⟨toS ((toL (ρ 1)).getD (toN (ρ 2)) .nilp)⟩⟩])=inP _ _ (toI (ρ 2)+1).toNat;rw[e1,k1,h0];rfl
   ·have hge:decide (toI (ρ 2)<((toL (ρ 1)).length:Int))=false:=hge;have hge:=of_decide_eq_false hge;rw[h1]at hge;have e:toN (ρ 2)=(toL (qa ds 1)).length:=by unfold toN; omega
    rw[e]at i3;show D.list [.int .u8 (IntKind.u8.wrap (toI (ρ 0)))]=_;rw[h0,←i3]
  ·have hq:qza=q:=by simpa using hq
   subst hq;obtain⟨i1,i2,i3,i4⟩:=hi;rcases ht with⟨hlt,ht⟩|⟨hge,_,rfl⟩
   ·have hlt:decide (toI (ρ 4)<((toL (ρ 1)).length:Int))=true:=hlt;have hlt:=of_decide_eq_true hlt;rw[h1]at hlt;have e1:(toI (ρ 4)+1).toNat=toN (ρ 4)+1:=by unfold toN; omega
    have el:toN (ρ 4)<(toL (qa ds 1)).length:=by unfold toN; omega
    have key:∀e:D,qfi [.str ⟨⟨toS ((toL (ρ 1)).getD (toN (ρ 4)) .nilp)⟩⟩] e→inP (toI (qa ds 0)) (toL (qa ds 1)) (toN (ρ 4)+1)=inP (toI (qa ds 0)) (toL (qa ds 1)) (toN (ρ 4))++toL e:=by
     intro e he;have he:toL e=qh (M44.qH (toS ((toL (ρ 1)).getD (toN (ρ 4)) .nilp))):=he;rw[qy8 _ el,he,h1];rfl
    rcases ht with⟨hz,hc,hn⟩|⟨hz,hc,hn⟩
    ·obtain⟨c1,_⟩:=hc;have f1:qfi _ _:=(c1 qfj rfl).2.2;have k1:=key _ f1;have hz:decide (((toL (wOf PP qaX 191 [.str ⟨⟨toS ((toL (ρ 1)).getD (toN (ρ 4)) .nilp)⟩⟩])).length:Int)≤0)=true:=hz;have hz:=of_decide_eq_true hz;have hz2:toL (wOf PP qaX 191 [.str ⟨⟨toS ((toL (ρ 1)).getD (toN (ρ 4)) .nilp)⟩⟩])=[]:=qUr (by omega);have k2:inP (toI (qa ds 0)) (toL (qa ds 1)) (toN (ρ 4)+1)=inP (toI (qa ds 0)) (toL (qa ds 1)) (toN (ρ 4)):=by
      rw[k1];show _++toL (wOf PP qaX 191 [.str ⟨⟨toS ((toL (ρ 1)).getD (toN (ρ 4)) .nilp)⟩⟩])=_;rw[hz2,qT7]
     refine hn ⟨?_,?_,?_,?_⟩
     ·show 0≤toI (ρ 4)+1;omega
     ·show toI (ρ 4)+1≤_;omega
     ·show toN (ρ 2)=(inP _ _ (toI (ρ 4)+1).toNat).length;rw[e1,k2,i3]
     ·show toL (ρ 5)=inP _ _ (toI (ρ 4)+1).toNat;rw[e1,k2,i4]
    ·obtain⟨c1,_⟩:=hc;have f1:qfi _ _:=(c1 qfj rfl).2.2;have k1:=key _ f1;refine hn ⟨?_,?_,?_,?_⟩
     ·show 0≤toI (ρ 4)+1;omega
     ·show toI (ρ 4)+1≤_;omega
     ·show(((toN (ρ 2)+((toL (wOf PP qaX 191 [.str ⟨⟨toS ((toL (ρ 1)).getD (toN (ρ 4)) .nilp)⟩⟩])).length:Int).toNat:Nat):Int)).toNat=(inP _ _ (toI (ρ 4)+1).toNat).length;rw[e1,k1,qTN,qTK,qTK,i3];rfl
     ·show((toL (ρ 5)).drop 0).take (toN (ρ 2))++toL (wOf PP qaX 191 [.str ⟨⟨toS ((toL (ρ 1)).getD (toN (ρ 4)) .nilp)⟩⟩])=inP _ _ (toI (ρ 4)+1).toNat;rw[e1,k1,qTY,i4,i3,qUM];rfl
   ·have hge:decide (toI (ρ 4)<((toL (ρ 1)).length:Int))=false:=hge;have hge:=of_decide_eq_false hge;rw[h1]at hge;have e:toN (ρ 4)=(toL (qa ds 1)).length:=by unfold toN; omega
    show D.list (((toL (ρ 5)).drop 0).take (toN (ρ 2)))=_;rw[qTY,i4,i3,qUM,e]
  ·simp at hq
 ·intro d ht;refine ht.2 ⟨?_,?_,?_⟩
  ·show(0:Int)≤0;decide
  ·show(0:Int)≤((toL (qa ds 1)).length:Int);omega
  ·rfl
theorem qOU:qp PP 109 qrO:=qOQ.more fun ds d hp _ h=>⟨fun f hf=>(by cases hf),qOT hp h⟩
def zD:D:=.int .u8 0
def qsf (i:Int):D:=.int .u8 (IntKind.u8.wrap ((IntKind.u64.wrap (8*IntKind.u64.wrap 35)).fdiv (2 ^ (min (56 - 8*i).toNat 64))))
def qdy:Nat→List D
 | 0=>[]|i+1=>qdy i++[qsf i]
theorem qQQ (i:Nat):qdy (i+1)=qdy i++[qsf i]:=rfl
theorem qsg:∀i,(qdy i).length=i
 | 0=>rfl|i+1=>by unfold qdy; rw[qTN,qsg i]; rfl
def qbn (x:List D) (j:Nat):List D:=x++(.int .u8 128::List.replicate j zD)
def qae (x:List D):List D:=qbn x 20++qdy 8
def qsh (ds:List D) (d:D):Prop:=(toL (qa ds 0)).length=35→d=.list (qae (toL (qa ds 0)))
structure qQR (x:List D) (ρ:Nat→D):Prop where
 ex:∃j,j≤20∧toN (ρ 1)=36+j∧toL (ρ 3)=qbn x j
structure qQS (x:List D) (ρ:Nat→D):Prop where
 lo:0≤toI (ρ 3)
 hi:toI (ρ 3)≤8
 n:toN (ρ 1)=56+toN (ρ 3)
 l:toL (ρ 4)=qbn x 20++qdy (toN (ρ 3))
theorem qsi {x:List D} (h:x.length=35) (j:Nat):(qbn x j).length=36+j:=by
 unfold qbn;rw[qTN,qT9,qU0,h];omega
theorem qQT (x:List D) (j:Nat):qbn x j++[zD]=qbn x (j+1):=by
 unfold qbn;rw[List.replicate_succ',qTW];rfl
def qiS:Con:={pts:=[Zbl],pre:=[],rts:=[ZbG],post:=[Zfn,.le ZL Zi,.le Zi (.w 0 Zt (.i 80))]}
def qmV:RFn:=mF 281 qiS [⟨3,[(0,.o (.c .l Ze)),(3,.o (.sl 0 1 Za Zc Zb false))],[.dat 1 Zd false],[Zbl,.i .i64,.i .i64,ZbG],[.le Za ZX,.nle Zg ZX,.le ZgW (.w 0 Zt (.i 72)),.le ZX ZgW,.nle (.w 0 Za ZX) Zab,ZcD],(Zg,.w 1 ZgW ZX,Zk,Za,Za,Za)⟩,⟨7,[(3,.o (.sl 0 1 Za Zc Zb false)),(4,.o (.c (.i .u64) ZiZ)),(5,Zbb)],[Zd8],[Zbl,.i .i64,.i .i64,.i .i64,ZbG],[Z6,.le Zd Z8,ZcF,.le Zfo (.w 0 Zt (.i 72)),.le Zfo Zi0,.le Zi0 Zfo,ZiL,ZcD],(Za,.w 1 Z8 Zd,Zk,Za,Za,Za)⟩]
def qmW:Tab:=[]
theorem qQU:Ye PP 281 qiS (Ev0 PP qmV qmW):=fe qmV qmW qu (by kernel_rfl) (by refine⟨?_,?_,?_,trivial⟩<;>intro<;>kernel_rfl)
def qsj:Con:={qiS with post:=qiS.post++[],fact:=qsh}
def qQV:TQ:=.fork (.w 11 Zt Za) (.next [] 0 [Ze,.w 8 Za (.u 0 0 ZgX),.w 8 Za (.u 0 0 ZgX),ZgX]) (.next [] 0 [Ze,Zi1,Zi1,.w 5 (.w 6 (.w 8 Za Zt) (.w 7 Za Ze)) ZgX])
def qzs:TQ:=.fork (.w 15 (.w 110 ZX ZL) (.i 56)) (.next [] 0 [Ze,Zi2,Zi2,.w 5 (.w 6 Zc (.w 7 Za Zd)) (.w 4 Zz .z)]) (.next [] 1 [Ze,Zc,Zb,Za,Zd])
def qzt:TQ:=.fork (.w 10 Zd Z8) (.next [] 1 [Ze,.w 8 Zc (.u 0 0 Zi3),.w 8 Zc (.u 0 0 Zi3),ZaI,.w 5 Zdn Zi3]) (.done [] Zdn)
theorem qQW:YF PP qmV qmW=[qQV,qzs,qzt]:=by kernel_rfl
theorem qQX {ds:List D} {d:D} (hp:qM qiS ds) (h:Ev0 PP qmV qmW ds d):qsh ds d:=by
 intro hl
 refine Jf qQW (I:=fun k ρ=>match k with
  | 0=>qQR (toL (qa ds 0)) ρ|_=>qQS (toL (qa ds 0)) ρ) (Q:=fun d=>d=.list (qae (toL (qa ds 0)))) ?_ ?_ h
 ·intro k st q ρ d hst hq hg hi ht;have h0:=hg.arg 0 (by decide);rcases k with _|_|k
  ·have hq:qzs=q:=by simpa using hq
   subst hq;obtain⟨j,hj,e1,e3⟩:=hi;rcases ht with⟨hlt,_,hn⟩|⟨hge,_,hn⟩
   ·have hlt:((((toN (ρ 1):Nat):Int).tmod 64) != 56)=true:=hlt;rw[e1]at hlt;have hj2:j≠20:=by
     rintro rfl
     revert hlt
     decide
    refine hn ⟨j+1,by omega,?_,?_⟩
    ·show((toN (ρ 1)+1:Nat):Int).toNat=36+(j+1);rw[qTK];omega
    ·show((toL (ρ 3)).drop 0).take (toN (ρ 1))++[zD]=qbn _ (j+1);rw[qTY,e3,e1,qTX (by rw[qsi hl]; exact qTF _),qQT]
   ·have hge:((((toN (ρ 1):Nat):Int).tmod 64) != 56)=false:=hge;rw[e1]at hge;have hj2:j=20:=by
     have:∀j:Nat,j≤20→(((36+j:Nat):Int).tmod 64 != 56)=false→j=20:=by decide
     exact this j hj hge
    subst hj2;refine hn ⟨?_,?_,?_,?_⟩
    ·show(0:Int)≤0;decide
    ·show(0:Int)≤8;decide
    ·exact e1
    ·show toL (ρ 3)=qbn _ 20++[];rw[qT7,e3]
  ·have hq:qzt=q:=by simpa using hq
   subst hq;obtain⟨i1,i2,i3,i4⟩:=hi;have el:(qbn (toL (qa ds 0)) 20++qdy (toN (ρ 3))).length=56+toN (ρ 3):=by
    rw[qTN,qsi hl,qsg]
   rcases ht with⟨hlt,_,hn⟩|⟨hge,_,rfl⟩
   ·have hlt:decide (toI (ρ 3)<8)=true:=hlt;have hlt:=of_decide_eq_true hlt;have e1:(toI (ρ 3)+1).toNat=toN (ρ 3)+1:=by unfold toN; omega
    have e2:toI (ρ 3)=((toN (ρ 3):Nat):Int):=by unfold toN; omega
    refine hn ⟨?_,?_,?_,?_⟩
    ·show 0≤toI (ρ 3)+1;omega
    ·show toI (ρ 3)+1≤8;omega
    ·show((toN (ρ 1)+1:Nat):Int).toNat=56+(toI (ρ 3)+1).toNat;rw[qTK,e1];omega
    ·show((toL (ρ 4)).drop 0).take (toN (ρ 1))++[.int .u8 (IntKind.u8.wrap ((IntKind.u64.wrap (8*IntKind.u64.wrap ((toL (ρ 0)).length:Int))).fdiv (2 ^ (min (56 - 8*toI (ρ 3)).toNat 64))))]=qbn _ 20++qdy (toI (ρ 3)+1).toNat;rw[qTY,i4,i3,qTX (by rw[el]; exact qTF _),e1,h0,hl];rw[qQQ,←qTW];unfold qsf;rw[←e2];rfl
   ·have hge:decide (toI (ρ 3)<8)=false:=hge;have hge:=of_decide_eq_false hge;have e:toN (ρ 3)=8:=by unfold toN; omega
    show D.list (((toL (ρ 4)).drop 0).take (toN (ρ 1)))=_;rw[qTY,i4,i3,qTX (by rw[el]; exact qTF _),e];rfl
  ·simp at hq
 ·intro d ht;rcases ht with⟨hlt,_,hn⟩|⟨hge,_,hn⟩
  ·have hlt:decide (((toL (qa ds 0)).length:Int)≤0)=true:=hlt;have hlt:=of_decide_eq_true hlt;omega
  ·refine hn ⟨0,by decide,?_,?_⟩
   ·show((((0+(toL (qa ds 0)).length:Nat):Int).toNat+1:Nat):Int).toNat=36+0;rw[hl];rfl
   ·show((toL (qa ds 0)).drop 0).take ((0+(toL (qa ds 0)).length:Nat):Int).toNat++[.int .u8 128]=qbn _ 0;rw[qTY,qTK,qT6,qUM];rfl
theorem qQY:qp PP 281 qsj:=qQU.more fun ds d hp _ h=>⟨fun f hf=>(by cases hf),qQX hp h⟩
def qaY (ds:List D) (d:D):Prop:=d=.int .u32 (Jx (toI (qa ds 0)) (toI (qa ds 1)).toNat)
def qiT:Con:={pts:=[.i .u32,.i .i64],pre:=[Z5,.le Zc ZbP],rts:=[.i .u32],post:=[]}
def qmX:RFn:=mF 283 qiT []
def qmY:Tab:=[]
theorem qQ5:Ye PP 283 qiT (Ev0 PP qmX qmY):=fe qmX qmY qu (by kernel_rfl) ⟨fun ρ=>by kernel_rfl,trivial⟩
def qbo:Con:={qiT with post:=qiT.post++[],fact:=qaY}
def qQ6:TQ:=.done [] (.mk (.i .u32) (.w 152 (.w 132 Ze Zc) (.w 122 Ze (.w 1 ZbP Zc))))
theorem qQ7:YF PP qmX qmY=[qQ6]:=by kernel_rfl
theorem qQ8 {ds:List D} {d:D} (hp:qM qiT ds) (h:Ev0 PP qmX qmY ds d):qaY ds d:=by
 have h0:0≤toI (qa ds 1):=hp.2 _ (qTR ..);have h1:toI (qa ds 1)≤32:=hp.2 _ (qTG _ (qTR ..));refine Jf qQ7 (I:=fun k ρ=>False) (Q:=qaY ds) (fun k st q ρ d hst hq hg hi ht=>hi.elim) ?_ h;intro d ht;obtain⟨_,rfl⟩:=ht;unfold qaY Jx qbK YI;have e1:min (toI (qa ds 1)).toNat 32=(toI (qa ds 1)).toNat:=by omega
 have e2:min (32 - toI (qa ds 1)).toNat 32=32 - (toI (qa ds 1)).toNat:=by omega
 show D.int .u32 (IntKind.u32.wrap (BitVec.ofInt 32 ((toI (qa ds 0)).fdiv (2 ^ min (toI (qa ds 1)).toNat 32))|||BitVec.ofInt 32 (IntKind.u32.wrap (toI (qa ds 0)*2 ^ min (32 - toI (qa ds 1)).toNat 32))).toNat)=_;rw[e1,e2];rfl
theorem qzu:qp PP 283 qbo:=qQ5.more fun ds d hp _ h=>⟨fun f hf=>(by cases hf),qQ8 hp h⟩
def qnp (ds:List D) (d:D):Prop:=d=.agg (fW (wS (toL (qa ds 0))) 64)
def qi0:Con:={pts:=[ZbG],pre:=[.nle ZL Zt],rts:=[.g (.ec (.i .u32) (.ec (.i .u32) (.ec (.i .u32) (.ec (.i .u32) (.ec (.i .u32) (.ec (.i .u32) (.ec (.i .u32) (.ec (.i .u32) (.ec (.i .u32) (.ec (.i .u32) (.ec (.i .u32) (.ec (.i .u32) (.ec (.i .u32) (.ec (.i .u32) (.ec (.i .u32) (.ec (.i .u32) (.ec (.i .u32) (.ec (.i .u32) (.ec (.i .u32) (.ec (.i .u32) (.ec (.i .u32) (.ec (.i .u32) (.ec (.i .u32) (.ec (.i .u32) (.ec (.i .u32) (.ec (.i .u32) (.ec (.i .u32) (.ec (.i .u32) (.ec (.i .u32) (.ec (.i .u32) (.ec (.i .u32) (.ec (.i .u32) (.ec (.i .u32) (.ec (.i .u32) (.ec (.i .u32) (.ec (.i .u32) (.ec (.i .u32) (.ec (.i .u32) (.ec (.i .u32) (.ec (.i .u32) (.ec (.i .u32) (.ec (.i .u32) (.ec (.i .u32) (.ec (.i .u32) (.ec (.i .u32) (.ec (.i .u32) (.ec (.i .u32) (.ec (.i .u32) (.ec (.i .u32) (.ec (.i .u32) (.ec (.i .u32) (.ec (.i .u32) (.ec (.i .u32) (.ec (.i .u32) (.ec (.i .u32) (.ec (.i .u32) ZhA))))))))))))))))))))))))))))))))))))))))))))))))))))))))],post:=[]}
def qnq:RFn:=mF 282 qi0 [⟨3,[(0,.o (.c .l Ze)),(2,Zc4),(3,ZbL),(4,ZbK)],ZgZ,Zg0,[.nle ZL Zw,Z5],(Zg,.w 1 Zau Zc,Zk,Za,Za,Za)⟩,⟨7,[(2,Zc4),(3,ZbL),(5,ZbK)],ZgZ,Zg0,[.le Zau Zc,.nle ZL Zw],(Za,.w 1 ZL Zc,Zk,Za,Za,Za)⟩]
def qbP:Tab:=[(283,qbo)]
theorem qTk:Ye PP 282 qi0 (Ev0 PP qnq qbP):=fe qnq qbP (qm qzu (qu)) (by kernel_rfl) (by refine⟨?_,?_,?_,trivial⟩<;>intro<;>kernel_rfl)
def qsK:Con:={qi0 with post:=qi0.post++[],fact:=qnp}
def qTl:TQ:=.next [] 0 [Ze,Za,.w 4 Zn (.w 4 Zn (.w 4 Zn (.w 4 Zn (.w 4 Zn (.w 4 Zn (.w 4 Zn (.w 4 Zn (.w 4 Zn (.w 4 Zn (.w 4 Zn (.w 4 Zn (.w 4 Zn (.w 4 Zn (.w 4 Zn (.w 4 Zn (.w 4 Zn (.w 4 Zn (.w 4 Zn (.w 4 Zn (.w 4 Zn (.w 4 Zn (.w 4 Zn (.w 4 Zn (.w 4 Zn (.w 4 Zn (.w 4 Zn (.w 4 Zn (.w 4 Zn (.w 4 Zn (.w 4 Zn (.w 4 Zn (.w 4 Zn (.w 4 Zn (.w 4 Zn (.w 4 Zn (.w 4 Zn (.w 4 Zn (.w 4 Zn (.w 4 Zn (.w 4 Zn (.w 4 Zn (.w 4 Zn (.w 4 Zn (.w 4 Zn (.w 4 Zn (.w 4 Zn (.w 4 Zn (.w 4 Zn (.w 4 Zn (.w 4 Zn (.w 4 Zn (.w 4 Zn (.w 4 Zn (.w 4 Zn (.w 4 Zn (.w 4 Zn (.w 4 Zn (.w 4 Zn (.w 4 Zn (.w 4 Zn (.w 4 Zn (.w 4 Zn (.w 4 Zn .z)))))))))))))))))))))))))))))))))))))))))))))))))))))))))))))))]
def qzU:TQ:=.fork Zfp (.next [] 0 [Ze,ZbF,.w 21 Zb (.u 2 0 (.w 4 Zbi (.w 4 (.mk (.i .u32) (.w 152 (.w 152 (.w 152 (.w 122 (.u 5 2 (.w 3 Ze Zcc)) (.i 24)) (.w 122 (.u 5 2 (.w 3 Ze (.w 0 Zcc Zg))) Zau)) (.w 122 (.u 5 2 (.w 3 Ze (.w 0 Zcc ZY))) Z8)) (.u 5 2 (.w 3 Ze (.w 0 Zcc Zad))))) .z)))]) (.next [] 1 [Ze,Zau,Zb])
def qzV:TQ:=.fork (.w 10 Zc ZL) (.next [(283,[.mk (.i .u32) (.w 3 (.v 2) (.w 1 (.v 1) (.i 15))),.mk (.i .i64) (.i 7)]),(283,[.mk (.i .u32) (.w 3 (.v 2) (.w 1 (.v 1) (.i 15))),.mk (.i .i64) (.i 18)]),(283,[.mk (.i .u32) (.w 3 (.v 2) (.w 1 (.v 1) (.i 2))),.mk (.i .i64) (.i 17)]),(283,[.mk (.i .u32) (.w 3 (.v 2) (.w 1 (.v 1) (.i 2))),.mk (.i .i64) (.i 19)])] 1 [Ze,ZbF,.w 21 Zb (.u 2 0 (.w 4 Zbi (.w 4 (.mk (.i .u32) (.u 5 2 (.w 0 (.u 5 2 (.w 0 (.u 5 2 (.w 0 Zjc (.w 162 (.w 162 (.u 3 283 (.w 4 ZbH (.w 4 (.mk (.i .i64) (.i 7)) .z))) (.u 3 283 (.w 4 ZbH (.w 4 (.mk (.i .i64) (.i 18)) .z)))) (.w 132 Zi6 Zad)))) Zjd)) (.w 162 (.w 162 (.u 3 283 (.w 4 ZbI (.w 4 (.mk (.i .i64) (.i 17)) .z))) (.u 3 283 (.w 4 ZbI (.w 4 (.mk (.i .i64) (.i 19)) .z)))) (.w 132 Zi9 Zbn))))) .z)))]) (.done [] (.u 2 0 (.w 4 (.mk (.i .u32) (.w 3 Zb Za)) (.w 4 (.mk (.i .u32) (.w 3 Zb Zg)) (.w 4 (.mk (.i .u32) (.w 3 Zb ZY)) (.w 4 (.mk (.i .u32) (.w 3 Zb Zad)) (.w 4 (.mk (.i .u32) (.w 3 Zb Z0)) (.w 4 (.mk (.i .u32) (.w 3 Zb (.i 5))) (.w 4 (.mk (.i .u32) (.w 3 Zb (.i 6))) (.w 4 (.mk (.i .u32) (.w 3 Zb (.i 7))) (.w 4 (.mk (.i .u32) (.w 3 Zb Z8)) (.w 4 (.mk (.i .u32) (.w 3 Zb (.i 9))) (.w 4 (.mk (.i .u32) (.w 3 Zb Zbn)) (.w 4 (.mk (.i .u32) (.w 3 Zb (.i 11))) (.w 4 (.mk (.i .u32) (.w 3 Zb (.i 12))) (.w 4 (.mk (.i .u32) (.w 3 Zb (.i 13))) (.w 4 (.mk (.i .u32) (.w 3 Zb (.i 14))) (.w 4 (.mk (.i .u32) (.w 3 Zb (.i 15))) (.w 4 (.mk (.i .u32) (.w 3 Zb Zau)) (.w 4 (.mk (.i .u32) (.w 3 Zb (.i 17))) (.w 4 (.mk (.i .u32) (.w 3 Zb (.i 18))) (.w 4 (.mk (.i .u32) (.w 3 Zb (.i 19))) (.w 4 (.mk (.i .u32) (.w 3 Zb (.i 20))) (.w 4 (.mk (.i .u32) (.w 3 Zb (.i 21))) (.w 4 (.mk (.i .u32) (.w 3 Zb (.i 22))) (.w 4 (.mk (.i .u32) (.w 3 Zb (.i 23))) (.w 4 (.mk (.i .u32) (.w 3 Zb (.i 24))) (.w 4 (.mk (.i .u32) (.w 3 Zb (.i 25))) (.w 4 (.mk (.i .u32) (.w 3 Zb (.i 26))) (.w 4 (.mk (.i .u32) (.w 3 Zb (.i 27))) (.w 4 (.mk (.i .u32) (.w 3 Zb (.i 28))) (.w 4 (.mk (.i .u32) (.w 3 Zb (.i 29))) (.w 4 (.mk (.i .u32) (.w 3 Zb (.i 30))) (.w 4 (.mk (.i .u32) (.w 3 Zb (.i 31))) (.w 4 (.mk (.i .u32) (.w 3 Zb ZbP)) (.w 4 (.mk (.i .u32) (.w 3 Zb (.i 33))) (.w 4 (.mk (.i .u32) (.w 3 Zb (.i 34))) (.w 4 (.mk (.i .u32) (.w 3 Zb (.i 35))) (.w 4 (.mk (.i .u32) (.w 3 Zb (.i 36))) (.w 4 (.mk (.i .u32) (.w 3 Zb (.i 37))) (.w 4 (.mk (.i .u32) (.w 3 Zb (.i 38))) (.w 4 (.mk (.i .u32) (.w 3 Zb (.i 39))) (.w 4 (.mk (.i .u32) (.w 3 Zb (.i 40))) (.w 4 (.mk (.i .u32) (.w 3 Zb (.i 41))) (.w 4 (.mk (.i .u32) (.w 3 Zb (.i 42))) (.w 4 (.mk (.i .u32) (.w 3 Zb (.i 43))) (.w 4 (.mk (.i .u32) (.w 3 Zb (.i 44))) (.w 4 (.mk (.i .u32) (.w 3 Zb (.i 45))) (.w 4 (.mk (.i .u32) (.w 3 Zb (.i 46))) (.w 4 (.mk (.i .u32) (.w 3 Zb (.i 47))) (.w 4 (.mk (.i .u32) (.w 3 Zb (.i 48))) (.w 4 (.mk (.i .u32) (.w 3 Zb (.i 49))) (.w 4 (.mk (.i .u32) (.w 3 Zb (.i 50))) (.w 4 (.mk (.i .u32) (.w 3 Zb (.i 51))) (.w 4 (.mk (.i .u32) (.w 3 Zb (.i 52))) (.w 4 (.mk (.i .u32) (.w 3 Zb (.i 53))) (.w 4 (.mk (.i .u32) (.w 3 Zb (.i 54))) (.w 4 (.mk (.i .u32) (.w 3 Zb (.i 55))) (.w 4 (.mk (.i .u32) (.w 3 Zb (.i 56))) (.w 4 (.mk (.i .u32) (.w 3 Zb (.i 57))) (.w 4 (.mk (.i .u32) (.w 3 Zb (.i 58))) (.w 4 (.mk (.i .u32) (.w 3 Zb (.i 59))) (.w 4 (.mk (.i .u32) (.w 3 Zb ZbJ)) (.w 4 (.mk (.i .u32) (.w 3 Zb (.i 61))) (.w 4 (.mk (.i .u32) (.w 3 Zb (.i 62))) (.w 4 (.mk (.i .u32) (.w 3 Zb (.i 63))) .z))))))))))))))))))))))))))))))))))))))))))))))))))))))))))))))))))
theorem qTm:YF PP qnq qbP=[qTl,qzU,qzV]:=by kernel_rfl
theorem qTn {ds:List D} {d:D} (hp:qM qi0 ds) (h:Ev0 PP qnq qbP ds d):qnp ds d:=by
 refine Jf qTm (I:=fun k ρ=>toL (ρ 2)=fW (wS (toL (qa ds 0))) (toN (ρ 1))∧0≤toI (ρ 1)∧match k with
  | 0=>toI (ρ 1)≤16|_=>16≤toI (ρ 1)∧toI (ρ 1)≤64) (Q:=qnp ds) ?_ ?_ h
 ·intro k st q ρ d hst hq hg hi ht;have h0:=hg.arg 0 (by decide);rcases k with _|_|k
  ·have hq:qzU=q:=by simpa using hq
   subst hq;obtain⟨i1,i2,i3⟩:=hi;rcases ht with⟨hlt,_,hn⟩|⟨hge,_,hn⟩
   ·have hlt:decide (toI (ρ 1)<16)=true:=hlt;have hlt:=of_decide_eq_true hlt;refine hn ⟨?_,?_,?_⟩
    ·show(toL (ρ 2)).set (toN (ρ 1)) (.int .u32 (M44.orI (M44.orI (M44.orI (YI (u32 (gw (toL (ρ 0)) (4*toI (ρ 1)).toNat)) 24) (YI (u32 (gw (toL (ρ 0)) (4*toI (ρ 1)+1).toNat)) 16)) (YI (u32 (gw (toL (ρ 0)) (4*toI (ρ 1)+2).toNat)) 8)) (u32 (gw (toL (ρ 0)) (4*toI (ρ 1)+3).toNat))))=fW _ (toI (ρ 1)+1).toNat;have e0:(4*toI (ρ 1)).toNat=4*toN (ρ 1):=by unfold toN; omega
     have e1:(4*toI (ρ 1)+1).toNat=4*toN (ρ 1)+1:=by unfold toN; omega
     have e2:(4*toI (ρ 1)+2).toNat=4*toN (ρ 1)+2:=by unfold toN; omega
     have e3:(4*toI (ρ 1)+3).toNat=4*toN (ρ 1)+3:=by unfold toN; omega
     have e4:(toI (ρ 1)+1).toNat=toN (ρ 1)+1:=by unfold toN; omega
     have e5:Nat.blt (toN (ρ 1)) 16=true:=by rw[qT0]; unfold toN; omega
     rw[e0,e1,e2,e3,e4,i1,h0];rw[qix,qyo e5]
    ·show 0≤toI (ρ 1)+1;omega
    ·show toI (ρ 1)+1≤16;omega
   ·have hge:decide (toI (ρ 1)<16)=false:=hge;have hge:=of_decide_eq_false hge;refine hn ⟨?_,?_,?_,?_⟩
    ·have i3:toI (ρ 1)≤16:=i3;have e:toN (ρ 1)=16:=by unfold toN; omega
     rw[e]at i1;exact i1
    ·show(0:Int)≤16;decide
    ·show(16:Int)≤16;decide
    ·show(16:Int)≤64;decide
  ·have hq:qzV=q:=by simpa using hq
   subst hq;obtain⟨i1,i2,i3,i4⟩:=hi;rcases ht with⟨hlt,hc,hn⟩|⟨hge,_,rfl⟩
   ·have hlt:decide (toI (ρ 1)<64)=true:=hlt;have hlt:=of_decide_eq_true hlt;refine hn ⟨?_,?_,?_,?_⟩
    ·obtain⟨c1,c2,c3,c4,_⟩:=hc;have f1:qaY _ _:=(c1 qbo rfl).2.2;have f2:qaY _ _:=(c2 qbo rfl).2.2;have f3:qaY _ _:=(c3 qbo rfl).2.2;have f4:qaY _ _:=(c4 qbo rfl).2.2;show(toL (ρ 2)).set (toN (ρ 1)) (.int .u32 (qD (qD (qD (gw (toL (ρ 2)) (toI (ρ 1) - 16).toNat) (M44.qF (M44.qF (toI (wOf PP qbP 283 (List.map (T.den (wOf PP qbP) ρ) [(.mk (.i .u32) (.w 3 (.v 2) (.w 1 (.v 1) (.i 15)))),(.mk (.i .i64) (.i 7))]))) (toI (wOf PP qbP 283 (List.map (T.den (wOf PP qbP) ρ) [(.mk (.i .u32) (.w 3 (.v 2) (.w 1 (.v 1) (.i 15)))),(.mk (.i .i64) (.i 18))])))) (qbK (gw (toL (ρ 2)) (toI (ρ 1) - 15).toNat) 3))) (gw (toL (ρ 2)) (toI (ρ 1) - 7).toNat)) (M44.qF (M44.qF (toI (wOf PP qbP 283 (List.map (T.den (wOf PP qbP) ρ) [(.mk (.i .u32) (.w 3 (.v 2) (.w 1 (.v 1) (.i 2)))),(.mk (.i .i64) (.i 17))]))) (toI (wOf PP qbP 283 (List.map (T.den (wOf PP qbP) ρ) [(.mk (.i .u32) (.w 3 (.v 2) (.w 1 (.v 1) (.i 2)))),(.mk (.i .i64) (.i 19))])))) (qbK (gw (toL (ρ 2)) (toI (ρ 1) - 2).toNat) 10))))=fW _ (toI (ρ 1)+1).toNat;rw[f1,f2,f3,f4];show(toL (ρ 2)).set (toN (ρ 1)) (.int .u32 (qD (qD (qD (gw (toL (ρ 2)) (toI (ρ 1) - 16).toNat) (M44.qF (M44.qF (Jx (gw (toL (ρ 2)) (toI (ρ 1) - 15).toNat) 7) (Jx (gw (toL (ρ 2)) (toI (ρ 1) - 15).toNat) 18)) (qbK (gw (toL (ρ 2)) (toI (ρ 1) - 15).toNat) 3))) (gw (toL (ρ 2)) (toI (ρ 1) - 7).toNat)) (M44.qF (M44.qF (Jx (gw (toL (ρ 2)) (toI (ρ 1) - 2).toNat) 17) (Jx (gw (toL (ρ 2)) (toI (ρ 1) - 2).toNat) 19)) (qbK (gw (toL (ρ 2)) (toI (ρ 1) - 2).toNat) 10))))=fW _ (toI (ρ 1)+1).toNat;have e0:(toI (ρ 1) - 16).toNat=toN (ρ 1) - 16:=by unfold toN; omega
     have e1:(toI (ρ 1) - 15).toNat=toN (ρ 1) - 15:=by unfold toN; omega
     have e2:(toI (ρ 1) - 7).toNat=toN (ρ 1) - 7:=by unfold toN; omega
     have e3:(toI (ρ 1) - 2).toNat=toN (ρ 1) - 2:=by unfold toN; omega
     have e4:(toI (ρ 1)+1).toNat=toN (ρ 1)+1:=by unfold toN; omega
     have e5:Nat.blt (toN (ρ 1)) 16=false:=by
      rw[←Bool.not_eq_true,qT0]; unfold toN; omega
     rw[e0,e1,e2,e3,e4,i1];rw[qix,qyp e5];rfl
    ·show 0≤toI (ρ 1)+1;omega
    ·show 16≤toI (ρ 1)+1;omega
    ·show toI (ρ 1)+1≤64;omega
   ·have hge:decide (toI (ρ 1)<64)=false:=hge;have hge:=of_decide_eq_false hge;have e:toN (ρ 1)=64:=by unfold toN; omega
    rw[e]at i1;show D.agg ((List.range 64).map fun i=>(K.i .u32).den ((toL (ρ 2)).getD i .nilp))=_;rw[i1,ql4 (qgK _ 64) (qiy _ 64)]
  ·simp at hq
 ·intro d ht;refine ht.2 ⟨rfl,?_,?_⟩
  ·show(0:Int)≤0;decide
  ·show(0:Int)≤16;decide
theorem qTo:qp PP 282 qsK:=qTk.more fun ds d hp _ h=>⟨fun f hf=>(by cases hf),qTn hp h⟩
def ivL:List D:=[wd 1779033703,wd 3144134277,wd 1013904242,wd 2773480762,wd 1359893119,wd 2600822924,wd 528734635,wd 1541459225]
def qne (s:List D) (i:Int):D:=.int .u8 (IntKind.u8.wrap ((gw s (IntKind.i64.wrap (i.tdiv 4)).toNat).fdiv (2 ^ (min (24 - 8*i.tmod 4).toNat 32))))
def Jb (s:List D):Nat→List D
 | 0=>List.replicate 32 zD|i+1=>(Jb s i).set i (qne s i)
theorem qiX (s:List D):∀i,(Jb s i).length=32
 | 0=>by simp[Jb]
 | i+1=>by unfold Jb; rw[qUI,qiX s i]
theorem qnf (s:List D):∀t,∀x∈Jb s t,∃n:Int,x=.int .u8 n
 | 0,x,h=>⟨0,qVK h⟩|t+1,x,h=>by
  unfold Jb at h;rcases qVb h with h|h
  ·exact qnf s t x h
  ·exact⟨_,h⟩
theorem qsy {ws:List D} (hl:ws.length=32) (hi:∀x∈ws,∃n:Int,x=.int .u8 n):((List.range 32).map fun i=>(K.i .u8).den (ws.getD i .nilp))=ws:=by
 refine qU6 (by simp[hl]) fun j h1 h2=>?_
 rw[qVI,qVJ,List.getD_eq_getElem?_getD,qTE h2];obtain⟨n,hn⟩:=hi _ (qTL h2);rw[qTT,hn];rfl
theorem qSl {ws:List D} (hl:ws.length=64) (hi:∀x∈ws,∃n:Int,x=.int .u32 n):((List.range 64).map fun i=>(K.i .u32).den (cel (.agg ws) i))=ws:=ql4 hl hi
def qsz (ds:List D) (d:D):Prop:=(toL (qa ds 0)).length=35→d=.agg (Jb (qaF (qae (toL (qa ds 0))) ivL) 32)
structure qSm (b:List D) (ρ:Nat→D):Prop where
 l:toL (ρ 1)=b
 s:(toI (ρ 2)=0∧toL (ρ 3)=ivL)∨(toI (ρ 2)=64∧toL (ρ 3)=qaF b ivL)
structure qSn (b:List D) (ρ:Nat→D):Prop where
 l:toL (ρ 1)=b
 z:toI (ρ 2)=0
 lo:0≤toI (ρ 3)
 hi:toI (ρ 3)≤64
 s:toL (ρ 4)=ivL
 w:toL (ρ 5)=fW (wS b) 64
 v:toL (ρ 6)=qaE (fW (wS b) 64) ivL (toN (ρ 3))
structure qSo (b:List D) (ρ:Nat→D):Prop where
 lo:0≤toI (ρ 1)
 hi:toI (ρ 1)≤32
 s:toL (ρ 2)=qaF b ivL
 o:toL (ρ 3)=Jb (qaF b ivL) (toN (ρ 1))
structure qSp (b:List D) (ρ:Nat→D):Prop where
 l:toL (ρ 1)=b
 z:toI (ρ 2)=0
 lo:0≤toI (ρ 3)
 hi:toI (ρ 3)≤8
 s:toL (ρ 4)=qft (qaE (fW (wS b) 64) ivL 64) ivL (toN (ρ 3))
 v:toL (ρ 5)=qaE (fW (wS b) 64) ivL 64
def qiY:Con:={pts:=[Zbl],pre:=[],rts:=[.g (.ec .y8 (.ec .y8 (.ec .y8 (.ec .y8 (.ec .y8 (.ec .y8 (.ec .y8 (.ec .y8 (.ec .y8 (.ec .y8 (.ec .y8 (.ec .y8 (.ec .y8 (.ec .y8 (.ec .y8 (.ec .y8 (.ec .y8 (.ec .y8 (.ec .y8 (.ec .y8 (.ec .y8 (.ec .y8 (.ec .y8 (.ec .y8 (.ec .y8 (.ec .y8 (.ec .y8 (.ec .y8 (.ec .y8 (.ec .y8 (.ec .y8 (.ec .y8 .e0))))))))))))))))))))))))))))))))],post:=[]}
def qbp:RFn:=mF 190 qiY [⟨4,[(2,Zc4),(3,ZbL),(4,.o (.c .l Zc)),(5,Zbr)],[Zfu,.arr 8 (.i .u32) Zd false],[Zbl,ZbG,.i .i64,ZbW],[ZZ,Zg2,Zfn,.nle Z8 Zab],(Zg,Zg3,Zk,Za,Za,Za)⟩,⟨9,[(2,Zc4),(3,ZbL),(4,.o (.c .l Zc)),(5,Zbr),(6,ZbT),(7,.o (.pt 3 0 Za 0)),(8,Zbb)],[Zfu,.arr 8 (.i .u32) Zf false,.arr 64 (.i .u32) Zj false,.arr 8 (.i .u32) Zs false],[Zbl,ZbG,.i .i64,.i .i64,ZbW,Zev,ZbW],[ZZ,Zg2,Zfn,Zfc,Z6,.nle Z8 ZO,.nle ZL Zav,.nle Z8 Z4],(Zg,Zg3,Zg,.w 1 ZL Zd,Zk,Za)⟩,⟨20,[(2,Zc4),(3,ZbL),(12,ZbT),(13,ZbK)],[Zfu,.arr 8 (.i .u32) Zb false,.arr 32 (.i .u8) Zd false],[Zbl,.i .i64,ZbW,.l 32 .y8],[.nle Z8 Zw,.nle ZbP Zab,Z5],(Za,.w 1 ZbP Zc,Zk,Za,Za,Za)⟩,⟨15,[(2,Zc4),(3,ZbL),(4,.o (.c .l Zc)),(5,Zbr),(7,ZbT),(11,Zbb)],[Zfu,.arr 8 (.i .u32) Zf false,.arr 8 (.i .u32) Zj false],[Zbl,ZbG,.i .i64,.i .i64,ZbW,ZbW],[ZZ,Zg2,Zfn,Zfc,.nle Z8 ZO,.nle Z8 Zav,Z6],(Zg,Zg3,Za,.w 1 Z8 Zd,Zk,Za)⟩]
def qX:Tab:=[(281,qsj),(282,qsK),(283,qbo)]
theorem qSq:qaT PP qbp qX=true:=by kernel_rfl
theorem qSr:qy PP qbp qX (qbp.sts.getD 0 default)=true:=by kernel_rfl
theorem qSs:qy PP qbp qX (qbp.sts.getD 1 default)=true:=by kernel_rfl
theorem qSt:qy PP qbp qX (qbp.sts.getD 2 default)=true:=by kernel_rfl
theorem qSu:qy PP qbp qX (qbp.sts.getD 3 default)=true:=by kernel_rfl
theorem qSv:Ye PP 190 qiY (Ev0 PP qbp qX):=fe qbp qX (qm qQY (qm qTo (qm qzu (qu)))) (qbC qSq ⟨qSr,qSs,qSt,qSu,trivial⟩) (by refine⟨?_,?_,?_,?_,?_,trivial⟩<;>intro<;>kernel_rfl)
def qsA:Con:={qiY with post:=qiY.post++[],fact:=qsz}
def qSw:TQ:=.next [(281,[.mk .l (.v 0)])] 0 [Ze,.u 3 281 (.w 4 ZdW .z),Za,.w 4 (.mk (.i .u32) (.i 1779033703)) (.w 4 (.mk (.i .u32) (.i 3144134277)) (.w 4 (.mk (.i .u32) (.i 1013904242)) (.w 4 (.mk (.i .u32) (.i 2773480762)) (.w 4 (.mk (.i .u32) (.i 1359893119)) (.w 4 (.mk (.i .u32) (.i 2600822924)) (.w 4 (.mk (.i .u32) (.i 528734635)) (.w 4 (.mk (.i .u32) (.i 1541459225)) .z)))))))]
def qng:TQ:=.fork (.w 10 Zb Zi) (.next [(282,[.mk .l (.w 6 (.w 9 (.w 0 (.v 2) (.i 64)) (.v 2)) (.w 7 (.v 2) (.v 1)))])] 1 [Ze,Zc,Zb,Za,Zd,.w 4 (.mk (.i .u32) (.u 1 0 Zo)) (.w 4 (.mk (.i .u32) (.u 1 1 Zo)) (.w 4 (.mk (.i .u32) (.u 1 2 Zo)) (.w 4 (.mk (.i .u32) (.u 1 3 Zo)) (.w 4 (.mk (.i .u32) (.u 1 4 Zo)) (.w 4 (.mk (.i .u32) (.u 1 5 Zo)) (.w 4 (.mk (.i .u32) (.u 1 6 Zo)) (.w 4 (.mk (.i .u32) (.u 1 7 Zo)) (.w 4 (.mk (.i .u32) (.u 1 8 Zo)) (.w 4 (.mk (.i .u32) (.u 1 9 Zo)) (.w 4 (.mk (.i .u32) (.u 1 10 Zo)) (.w 4 (.mk (.i .u32) (.u 1 11 Zo)) (.w 4 (.mk (.i .u32) (.u 1 12 Zo)) (.w 4 (.mk (.i .u32) (.u 1 13 Zo)) (.w 4 (.mk (.i .u32) (.u 1 14 Zo)) (.w 4 (.mk (.i .u32) (.u 1 15 Zo)) (.w 4 (.mk (.i .u32) (.u 1 16 Zo)) (.w 4 (.mk (.i .u32) (.u 1 17 Zo)) (.w 4 (.mk (.i .u32) (.u 1 18 Zo)) (.w 4 (.mk (.i .u32) (.u 1 19 Zo)) (.w 4 (.mk (.i .u32) (.u 1 20 Zo)) (.w 4 (.mk (.i .u32) (.u 1 21 Zo)) (.w 4 (.mk (.i .u32) (.u 1 22 Zo)) (.w 4 (.mk (.i .u32) (.u 1 23 Zo)) (.w 4 (.mk (.i .u32) (.u 1 24 Zo)) (.w 4 (.mk (.i .u32) (.u 1 25 Zo)) (.w 4 (.mk (.i .u32) (.u 1 26 Zo)) (.w 4 (.mk (.i .u32) (.u 1 27 Zo)) (.w 4 (.mk (.i .u32) (.u 1 28 Zo)) (.w 4 (.mk (.i .u32) (.u 1 29 Zo)) (.w 4 (.mk (.i .u32) (.u 1 30 Zo)) (.w 4 (.mk (.i .u32) (.u 1 31 Zo)) (.w 4 (.mk (.i .u32) (.u 1 32 Zo)) (.w 4 (.mk (.i .u32) (.u 1 33 Zo)) (.w 4 (.mk (.i .u32) (.u 1 34 Zo)) (.w 4 (.mk (.i .u32) (.u 1 35 Zo)) (.w 4 (.mk (.i .u32) (.u 1 36 Zo)) (.w 4 (.mk (.i .u32) (.u 1 37 Zo)) (.w 4 (.mk (.i .u32) (.u 1 38 Zo)) (.w 4 (.mk (.i .u32) (.u 1 39 Zo)) (.w 4 (.mk (.i .u32) (.u 1 40 Zo)) (.w 4 (.mk (.i .u32) (.u 1 41 Zo)) (.w 4 (.mk (.i .u32) (.u 1 42 Zo)) (.w 4 (.mk (.i .u32) (.u 1 43 Zo)) (.w 4 (.mk (.i .u32) (.u 1 44 Zo)) (.w 4 (.mk (.i .u32) (.u 1 45 Zo)) (.w 4 (.mk (.i .u32) (.u 1 46 Zo)) (.w 4 (.mk (.i .u32) (.u 1 47 Zo)) (.w 4 (.mk (.i .u32) (.u 1 48 Zo)) (.w 4 (.mk (.i .u32) (.u 1 49 Zo)) (.w 4 (.mk (.i .u32) (.u 1 50 Zo)) (.w 4 (.mk (.i .u32) (.u 1 51 Zo)) (.w 4 (.mk (.i .u32) (.u 1 52 Zo)) (.w 4 (.mk (.i .u32) (.u 1 53 Zo)) (.w 4 (.mk (.i .u32) (.u 1 54 Zo)) (.w 4 (.mk (.i .u32) (.u 1 55 Zo)) (.w 4 (.mk (.i .u32) (.u 1 56 Zo)) (.w 4 (.mk (.i .u32) (.u 1 57 Zo)) (.w 4 (.mk (.i .u32) (.u 1 58 Zo)) (.w 4 (.mk (.i .u32) (.u 1 59 Zo)) (.w 4 (.mk (.i .u32) (.u 1 60 Zo)) (.w 4 (.mk (.i .u32) (.u 1 61 Zo)) (.w 4 (.mk (.i .u32) (.u 1 62 Zo)) (.w 4 (.mk (.i .u32) (.u 1 63 Zo)) .z))))))))))))))))))))))))))))))))))))))))))))))))))))))))))))))),Zd]) (.next [] 2 [Ze,Za,Zd,.w 4 Zz (.w 4 Zz (.w 4 Zz (.w 4 Zz (.w 4 Zz (.w 4 Zz (.w 4 Zz (.w 4 Zz (.w 4 Zz (.w 4 Zz (.w 4 Zz (.w 4 Zz (.w 4 Zz (.w 4 Zz (.w 4 Zz (.w 4 Zz ZgR)))))))))))))))])
def qzK:TQ:=.fork (.w 10 Zd ZL) (.next [(283,[.mk (.i .u32) (.w 3 (.v 6) (.i 4)),.mk (.i .i64) (.i 6)]),(283,[.mk (.i .u32) (.w 3 (.v 6) (.i 4)),.mk (.i .i64) (.i 11)]),(283,[.mk (.i .u32) (.w 3 (.v 6) (.i 4)),.mk (.i .i64) (.i 25)]),(283,[.mk (.i .u32) (.w 3 (.v 6) (.i 0)),.mk (.i .i64) (.i 2)]),(283,[.mk (.i .u32) (.w 3 (.v 6) (.i 0)),.mk (.i .i64) (.i 13)]),(283,[.mk (.i .u32) (.w 3 (.v 6) (.i 0)),.mk (.i .i64) (.i 22)])] 1 [Ze,Zc,Zb,ZaI,Zf,Zj,.w 4 (.mk (.i .u32) (.u 5 2 (.w 0 ZjB (.u 5 2 (.w 0 (.w 162 (.w 162 (.u 3 283 (.w 4 Zce (.w 4 Zez .z))) (.u 3 283 (.w 4 Zce (.w 4 ZeA .z)))) (.u 3 283 (.w 4 Zce (.w 4 Zgc .z)))) (.w 162 (.w 162 (.w 142 ZeO Zg5) (.w 142 ZeO Zg6)) (.w 142 Zg5 Zg6))))))) (.w 4 Zce (.w 4 (.mk (.i .u32) Zg5) (.w 4 (.mk (.i .u32) Zg6) (.w 4 (.mk (.i .u32) (.u 5 2 (.w 0 (.w 3 Zs Zad) ZjB))) (.w 4 Zcd (.w 4 (.mk (.i .u32) (.w 3 Zs (.i 5))) (.w 4 (.mk (.i .u32) (.w 3 Zs (.i 6))) .z)))))))]) (.next [] 3 [Ze,Zc,Zb,Za,Zf,Zs])
def qzL:TQ:=.fork (.w 10 Zc ZbP) (.next [] 2 [Ze,ZbF,Zb,.w 21 Zd (.u 2 0 (.w 4 Zbi (.w 4 (.mk (.i .u8) (.u 5 1 (.w 132 (.w 3 Zb (.w 100 Zc Z0)) (.w 1 (.i 24) (.w 2 Z8 (.w 110 Zc Z0)))))) .z)))]) (.done [] (.u 2 0 (.w 4 Zje (.w 4 Zjf (.w 4 Zjg (.w 4 Zjh (.w 4 Zji (.w 4 Zjj (.w 4 Zjk (.w 4 Zjl (.w 4 Zjm (.w 4 Zjn (.w 4 Zjo (.w 4 Zjp (.w 4 Zjq (.w 4 Zjr (.w 4 Zjs (.w 4 Zjt (.w 4 (.mk (.i .u8) (.w 3 Zd Zau)) (.w 4 (.mk (.i .u8) (.w 3 Zd (.i 17))) (.w 4 (.mk (.i .u8) (.w 3 Zd (.i 18))) (.w 4 (.mk (.i .u8) (.w 3 Zd (.i 19))) (.w 4 (.mk (.i .u8) (.w 3 Zd (.i 20))) (.w 4 (.mk (.i .u8) (.w 3 Zd (.i 21))) (.w 4 (.mk (.i .u8) (.w 3 Zd (.i 22))) (.w 4 (.mk (.i .u8) (.w 3 Zd (.i 23))) (.w 4 (.mk (.i .u8) (.w 3 Zd (.i 24))) (.w 4 (.mk (.i .u8) (.w 3 Zd (.i 25))) (.w 4 (.mk (.i .u8) (.w 3 Zd (.i 26))) (.w 4 (.mk (.i .u8) (.w 3 Zd (.i 27))) (.w 4 (.mk (.i .u8) (.w 3 Zd (.i 28))) (.w 4 (.mk (.i .u8) (.w 3 Zd (.i 29))) (.w 4 (.mk (.i .u8) (.w 3 Zd (.i 30))) (.w 4 (.mk (.i .u8) (.w 3 Zd (.i 31))) .z))))))))))))))))))))))))))))))))))
def qzM:TQ:=.fork (.w 10 Zd Z8) (.next [] 3 [Ze,Zc,Zb,ZaI,.w 21 Zf (.u 2 0 (.w 4 (.mk (.i .i64) Zd) (.w 4 (.mk (.i .u32) (.u 5 2 (.w 0 (.w 3 Zf Zd) (.w 3 Zj Zd)))) .z))),Zj]) (.next [] 0 [Ze,Zc,.w 0 Zb ZL,Zf])
theorem qSx:YF PP qbp qX=[qSw,qng,qzK,qzL,qzM]:=by kernel_rfl
def qzN (k:Nat):TQ→T
 | .fork _ (.next _ _ l) _=>l.getD k .z|_=>.z
theorem qSy (ρ:Nat→D):toL ((qzN 5 qng).den (wOf PP qX) ρ)=(List.range 64).map fun i=>(K.i .u32).den (cel (wOf PP qX 282 [.list (((toL (ρ 1)).drop (toI (ρ 2)).toNat).take ((((toI (ρ 2)+64).toNat - (toI (ρ 2)).toNat:Nat):Int).toNat))]) i):=by kernel_rfl
theorem qSz {ds:List D} {d:D} (hp:qM qiY ds) (h:Ev0 PP qbp qX ds d):qsz ds d:=by
 intro hl;have hbl:(qae (toL (qa ds 0))).length=64:=by
  unfold qae;rw[qTN,qsi hl,qsg]
 refine Jf qSx (I:=fun k ρ=>match k with
  | 0=>qSm (qae (toL (qa ds 0))) ρ|1=>qSn (qae (toL (qa ds 0))) ρ|2=>qSo (qae (toL (qa ds 0))) ρ|_=>qSp (qae (toL (qa ds 0))) ρ) (Q:=fun d=>d=.agg (Jb (qaF (qae (toL (qa ds 0))) ivL) 32)) ?_ ?_ h
 ·intro k st q ρ d hst hq hg hi ht;rcases k with _|_|_|_|k
  ·have hq:qng=q:=by simpa using hq
   subst hq;obtain⟨i1,i2⟩:=hi;rcases ht with⟨hlt,hc,hn⟩|⟨hge,_,hn⟩
   ·have hlt:decide (toI (ρ 2)<((toL (ρ 1)).length:Int))=true:=hlt;rw[i1,hbl]at hlt;have hlt:=of_decide_eq_true hlt;rcases i2 with⟨z,s⟩|⟨z,s⟩
    ·obtain⟨c1,_⟩:=hc;have f1:qnp _ _:=(c1 qsK rfl).2.2;have f1:wOf PP qX 282 [.list (((toL (ρ 1)).drop (toI (ρ 2)).toNat).take ((((toI (ρ 2)+64).toNat - (toI (ρ 2)).toNat:Nat):Int).toNat))]=.agg (fW (wS (((toL (ρ 1)).drop (toI (ρ 2)).toNat).take ((((toI (ρ 2)+64).toNat - (toI (ρ 2)).toNat:Nat):Int).toNat))) 64):=f1;refine hn ⟨i1,z,?_,?_,s,?_,s⟩
     ·show(0:Int)≤0;decide
     ·show(0:Int)≤64;decide
     ·show toL ((qzN 5 qng).den (wOf PP qX) ρ)=fW (wS (qae (toL (qa ds 0)))) 64;rw[qSy,f1,qSl (qgK _ 64) (qiy _ 64),z,i1];have e:(((((0:Int)+64).toNat - (0:Int).toNat:Nat):Int).toNat)=64:=by decide
      rw[e];show fW (wS (((qae (toL (qa ds 0))).drop 0).take 64)) 64=_;rw[qTY,qTX (by rw[hbl]; exact qTF _)]
    ·rw[z]at hlt;exact absurd hlt (by decide)
   ·have hge:decide (toI (ρ 2)<((toL (ρ 1)).length:Int))=false:=hge;rw[i1,hbl]at hge;have hge:=of_decide_eq_false hge;rcases i2 with⟨z,s⟩|⟨z,s⟩
    ·rw[z]at hge;exact absurd (by decide) hge
    ·refine hn ⟨?_,?_,s,rfl⟩
     ·show(0:Int)≤0;decide
     ·show(0:Int)≤32;decide
  ·have hq:qzK=q:=by simpa using hq
   subst hq;obtain⟨i1,i2,i3,i4,i5,i6,i7⟩:=hi;rcases ht with⟨hlt,hc,hn⟩|⟨hge,_,hn⟩
   ·have hlt:decide (toI (ρ 3)<64)=true:=hlt;have hlt:=of_decide_eq_true hlt;obtain⟨c1,c2,c3,c4,c5,c6,_⟩:=hc;have f1:qaY _ _:=(c1 qbo rfl).2.2;have f2:qaY _ _:=(c2 qbo rfl).2.2;have f3:qaY _ _:=(c3 qbo rfl).2.2;have f4:qaY _ _:=(c4 qbo rfl).2.2;have f5:qaY _ _:=(c5 qbo rfl).2.2;have f6:qaY _ _:=(c6 qbo rfl).2.2;have g1:toI (wOf PP qX 283 (List.map (T.den (wOf PP qX) ρ) [(.mk (.i .u32) (.w 3 (.v 6) (.i 4))),(.mk (.i .i64) (.i 6))]))=Jx (gw (toL (ρ 6)) 4) 6:=congrArg toI f1;have g2:toI (wOf PP qX 283 (List.map (T.den (wOf PP qX) ρ) [(.mk (.i .u32) (.w 3 (.v 6) (.i 4))),(.mk (.i .i64) (.i 11))]))=Jx (gw (toL (ρ 6)) 4) 11:=congrArg toI f2;have g3:toI (wOf PP qX 283 (List.map (T.den (wOf PP qX) ρ) [(.mk (.i .u32) (.w 3 (.v 6) (.i 4))),(.mk (.i .i64) (.i 25))]))=Jx (gw (toL (ρ 6)) 4) 25:=congrArg toI f3;have g4:toI (wOf PP qX 283 (List.map (T.den (wOf PP qX) ρ) [(.mk (.i .u32) (.w 3 (.v 6) (.i 0))),(.mk (.i .i64) (.i 2))]))=Jx (gw (toL (ρ 6)) 0) 2:=congrArg toI f4;have g5:toI (wOf PP qX 283 (List.map (T.den (wOf PP qX) ρ) [(.mk (.i .u32) (.w 3 (.v 6) (.i 0))),(.mk (.i .i64) (.i 13))]))=Jx (gw (toL (ρ 6)) 0) 13:=congrArg toI f5;have g6:toI (wOf PP qX 283 (List.map (T.den (wOf PP qX) ρ) [(.mk (.i .u32) (.w 3 (.v 6) (.i 0))),(.mk (.i .i64) (.i 22))]))=Jx (gw (toL (ρ 6)) 0) 22:=congrArg toI f6;have e1:(toI (ρ 3)+1).toNat=toN (ρ 3)+1:=by unfold toN; omega
    refine hn ⟨i1,i2,?_,?_,i5,i6,?_⟩
    ·show 0≤toI (ρ 3)+1;omega
    ·show toI (ρ 3)+1≤64;omega
    ·show[wd (qD (qD (qD (qD (qD (gw (toL (ρ 6)) 7) (M44.qF (M44.qF (toI (wOf PP qX 283 (List.map (T.den (wOf PP qX) ρ) [(.mk (.i .u32) (.w 3 (.v 6) (.i 4))),(.mk (.i .i64) (.i 6))]))) (toI (wOf PP qX 283 (List.map (T.den (wOf PP qX) ρ) [(.mk (.i .u32) (.w 3 (.v 6) (.i 4))),(.mk (.i .i64) (.i 11))])))) (toI (wOf PP qX 283 (List.map (T.den (wOf PP qX) ρ) [(.mk (.i .u32) (.w 3 (.v 6) (.i 4))),(.mk (.i .i64) (.i 25))]))))) (M44.qF (YZ (gw (toL (ρ 6)) 4) (gw (toL (ρ 6)) 5)) (YZ (M44.qF (gw (toL (ρ 6)) 4) 4294967295) (gw (toL (ρ 6)) 6)))) (gw kL (toN (ρ 3)))) (gw (toL (ρ 5)) (toN (ρ 3)))) (qD (M44.qF (M44.qF (toI (wOf PP qX 283 (List.map (T.den (wOf PP qX) ρ) [(.mk (.i .u32) (.w 3 (.v 6) (.i 0))),(.mk (.i .i64) (.i 2))]))) (toI (wOf PP qX 283 (List.map (T.den (wOf PP qX) ρ) [(.mk (.i .u32) (.w 3 (.v 6) (.i 0))),(.mk (.i .i64) (.i 13))])))) (toI (wOf PP qX 283 (List.map (T.den (wOf PP qX) ρ) [(.mk (.i .u32) (.w 3 (.v 6) (.i 0))),(.mk (.i .i64) (.i 22))])))) (M44.qF (M44.qF (YZ (gw (toL (ρ 6)) 0) (gw (toL (ρ 6)) 1)) (YZ (gw (toL (ρ 6)) 0) (gw (toL (ρ 6)) 2))) (YZ (gw (toL (ρ 6)) 1) (gw (toL (ρ 6)) 2))))),wd (gw (toL (ρ 6)) 0),wd (gw (toL (ρ 6)) 1),wd (gw (toL (ρ 6)) 2),wd (qD (gw (toL (ρ 6)) 3) (qD (qD (qD (qD (gw (toL (ρ 6)) 7) (M44.qF (M44.qF (toI (wOf PP qX 283 (List.map (T.den (wOf PP qX) ρ) [(.mk (.i .u32) (.w 3 (.v 6) (.i 4))),(.mk (.i .i64) (.i 6))]))) (toI (wOf PP qX 283 (List.map (T.den (wOf PP qX) ρ) [(.mk (.i .u32) (.w 3 (.v 6) (.i 4))),(.mk (.i .i64) (.i 11))])))) (toI (wOf PP qX 283 (List.map (T.den (wOf PP qX) ρ) [(.mk (.i .u32) (.w 3 (.v 6) (.i 4))),(.mk (.i .i64) (.i 25))]))))) (M44.qF (YZ (gw (toL (ρ 6)) 4) (gw (toL (ρ 6)) 5)) (YZ (M44.qF (gw (toL (ρ 6)) 4) 4294967295) (gw (toL (ρ 6)) 6)))) (gw kL (toN (ρ 3)))) (gw (toL (ρ 5)) (toN (ρ 3))))),wd (gw (toL (ρ 6)) 4),wd (gw (toL (ρ 6)) 5),wd (gw (toL (ρ 6)) 6)]=qaE _ ivL (toI (ρ 3)+1).toNat;rw[g1,g2,g3,g4,g5,g6,e1,i6,i7];rfl
   ·have hge:decide (toI (ρ 3)<64)=false:=hge;have hge:=of_decide_eq_false hge;have e:toN (ρ 3)=64:=by unfold toN; omega
    rw[e]at i7;refine hn ⟨i1,i2,?_,?_,i5,i7⟩
    ·show(0:Int)≤0;decide
    ·show(0:Int)≤8;decide
  ·have hq:qzL=q:=by simpa using hq
   subst hq;obtain⟨i1,i2,i3,i4⟩:=hi;rcases ht with⟨hlt,_,hn⟩|⟨hge,_,rfl⟩
   ·have hlt:decide (toI (ρ 1)<32)=true:=hlt;have hlt:=of_decide_eq_true hlt;have e1:(toI (ρ 1)+1).toNat=toN (ρ 1)+1:=by unfold toN; omega
    have e2:toI (ρ 1)=((toN (ρ 1):Nat):Int):=by unfold toN; omega
    refine hn ⟨?_,?_,i3,?_⟩
    ·show 0≤toI (ρ 1)+1;omega
    ·show toI (ρ 1)+1≤32;omega
    ·show(toL (ρ 3)).set (toN (ρ 1)) (qne (toL (ρ 2)) (toI (ρ 1)))=Jb _ (toI (ρ 1)+1).toNat;rw[e1,i3,i4];show _=(Jb _ (toN (ρ 1))).set (toN (ρ 1)) (qne _ _);rw[←e2]
   ·have hge:decide (toI (ρ 1)<32)=false:=hge;have hge:=of_decide_eq_false hge;have e:toN (ρ 1)=32:=by unfold toN; omega
    rw[e]at i4;show D.agg ((List.range 32).map fun i=>(K.i .u8).den ((toL (ρ 3)).getD i .nilp))=_;rw[i4,qsy (qiX _ 32) (qnf _ 32)]
  ·have hq:qzM=q:=by simpa using hq
   subst hq;obtain⟨i1,i2,i3,i4,i5,i6⟩:=hi;rcases ht with⟨hlt,_,hn⟩|⟨hge,_,hn⟩
   ·have hlt:decide (toI (ρ 3)<8)=true:=hlt;have hlt:=of_decide_eq_true hlt;have e1:(toI (ρ 3)+1).toNat=toN (ρ 3)+1:=by unfold toN; omega
    refine hn ⟨i1,i2,?_,?_,?_,i6⟩
    ·show 0≤toI (ρ 3)+1;omega
    ·show toI (ρ 3)+1≤8;omega
    ·show(toL (ρ 4)).set (toN (ρ 3)) (wd (qD (gw (toL (ρ 4)) (toN (ρ 3))) (gw (toL (ρ 5)) (toN (ρ 3)))))=qft _ _ (toI (ρ 3)+1).toNat;rw[e1,i5,i6];rfl
   ·have hge:decide (toI (ρ 3)<8)=false:=hge;have hge:=of_decide_eq_false hge;have e:toN (ρ 3)=8:=by unfold toN; omega
    rw[e]at i5;refine hn ⟨i1,Or.inr ⟨?_,i5⟩⟩;show toI (ρ 2)+64=64;rw[i2];rfl
  ·simp at hq
 ·intro d ht;obtain⟨⟨c1,_⟩,hn⟩:=ht;have f1:qsh _ _:=(c1 qsj rfl).2.2;have f1:wOf PP qX 281 [.list (toL (qa ds 0))]=.list (qae (toL (qa ds 0))):=f1 hl;refine hn ⟨?_,Or.inl ⟨rfl,rfl⟩⟩;show toL (wOf PP qX 281 [.list (toL (qa ds 0))])=_;rw[f1];rfl
theorem qSA:qp PP 190 qsA:=qSv.more fun ds d hp _ h=>⟨fun f hf=>(by cases hf),qSz hp h⟩
def cpN (H:List D):Nat→List D
 | 0=>List.replicate 16 zD|i+1=>(cpN H i).set i (.int .u8 (gw H i))
theorem qm8 (s:List D):∀i,(cpN s i).length=16
 | 0=>by simp[cpN]
 | i+1=>by unfold cpN; rw[qUI,qm8 s i]
theorem qm9 (s:List D):∀t,∀x∈cpN s t,∃n:Int,x=.int .u8 n
 | 0,x,h=>⟨0,qVK h⟩|t+1,x,h=>by
  unfold cpN at h;rcases qVb h with h|h
  ·exact qm9 s t x h
  ·exact⟨_,h⟩
theorem qzD {ws:List D} (hl:ws.length=16) (hi:∀x∈ws,∃n:Int,x=.int .u8 n):((List.range 16).map fun i=>(K.i .u8).den (ws.getD i .nilp))=ws:=by
 refine qU6 (by simp[hl]) fun j h1 h2=>?_
 rw[qVI,qVJ,List.getD_eq_getElem?_getD,qTE h2];obtain⟨n,hn⟩:=hi _ (qTL h2);rw[qTT,hn];rfl
theorem qRC {ws:List D} (hl:ws.length=32) (hi:∀x∈ws,∃n:Int,x=.int .u8 n):((List.range 32).map fun i=>(K.i .u8).den (cel (.agg ws) i))=ws:=qsy hl hi
def qbO (x:List D):List D:=Jb (qaF (qae x) ivL) 32
def qsr (ds:List D) (d:D):Prop:=(toL (qa ds 0)).length=35→d=.agg (cpN (qbO (toL (qa ds 0))) 16)
structure qRD (H:List D) (ρ:Nat→D):Prop where
 lo:0≤toI (ρ 1)
 hi:toI (ρ 1)≤16
 h:toL (ρ 2)=H
 o:toL (ρ 3)=cpN H (toN (ρ 1))
def qiW:Con:={pts:=[Zbl],pre:=[],rts:=[Zba],post:=[]}
def qna:RFn:=mF 108 qiW [⟨4,[(2,Zc4),(3,ZbL),(4,ZbT),(5,ZbK)],[Zc8,.arr 32 (.i .u8) Zb false,.arr 16 (.i .u8) Zd false],[Zbl,.i .i64,.l 32 .y8,.l 16 .y8],[.nle ZbP Zw,.nle Zau Zab,Z5],(Za,.w 1 Zau Zc,Zk,Za,Za,Za)⟩]
def qey:Tab:=[(190,qsA)]
theorem qRE:Ye PP 108 qiW (Ev0 PP qna qey):=fe qna qey (qm qSA (qu)) (by kernel_rfl) (by refine⟨?_,?_,trivial⟩<;>intro<;>kernel_rfl)
def qss:Con:={qiW with post:=qiW.post++[],fact:=qsr}
def qst:TQ:=.next [(190,[ZdW])] 0 [Ze,Za,.w 4 (.mk (.i .u8) (.u 1 0 ZA)) (.w 4 (.mk (.i .u8) (.u 1 1 ZA)) (.w 4 (.mk (.i .u8) (.u 1 2 ZA)) (.w 4 (.mk (.i .u8) (.u 1 3 ZA)) (.w 4 (.mk (.i .u8) (.u 1 4 ZA)) (.w 4 (.mk (.i .u8) (.u 1 5 ZA)) (.w 4 (.mk (.i .u8) (.u 1 6 ZA)) (.w 4 (.mk (.i .u8) (.u 1 7 ZA)) (.w 4 (.mk (.i .u8) (.u 1 8 ZA)) (.w 4 (.mk (.i .u8) (.u 1 9 ZA)) (.w 4 (.mk (.i .u8) (.u 1 10 ZA)) (.w 4 (.mk (.i .u8) (.u 1 11 ZA)) (.w 4 (.mk (.i .u8) (.u 1 12 ZA)) (.w 4 (.mk (.i .u8) (.u 1 13 ZA)) (.w 4 (.mk (.i .u8) (.u 1 14 ZA)) (.w 4 (.mk (.i .u8) (.u 1 15 ZA)) (.w 4 (.mk (.i .u8) (.u 1 16 ZA)) (.w 4 (.mk (.i .u8) (.u 1 17 ZA)) (.w 4 (.mk (.i .u8) (.u 1 18 ZA)) (.w 4 (.mk (.i .u8) (.u 1 19 ZA)) (.w 4 (.mk (.i .u8) (.u 1 20 ZA)) (.w 4 (.mk (.i .u8) (.u 1 21 ZA)) (.w 4 (.mk (.i .u8) (.u 1 22 ZA)) (.w 4 (.mk (.i .u8) (.u 1 23 ZA)) (.w 4 (.mk (.i .u8) (.u 1 24 ZA)) (.w 4 (.mk (.i .u8) (.u 1 25 ZA)) (.w 4 (.mk (.i .u8) (.u 1 26 ZA)) (.w 4 (.mk (.i .u8) (.u 1 27 ZA)) (.w 4 (.mk (.i .u8) (.u 1 28 ZA)) (.w 4 (.mk (.i .u8) (.u 1 29 ZA)) (.w 4 (.mk (.i .u8) (.u 1 30 ZA)) (.w 4 (.mk (.i .u8) (.u 1 31 ZA)) .z))))))))))))))))))))))))))))))),ZgR]
def qzE:TQ:=.fork Zfp (.next [] 0 [Ze,ZbF,Zb,.w 21 Zd (.u 2 0 (.w 4 Zbi (.w 4 (.mk (.i .u8) (.w 3 Zb Zc)) .z)))]) (.done [] (.u 2 0 (.w 4 Zje (.w 4 Zjf (.w 4 Zjg (.w 4 Zjh (.w 4 Zji (.w 4 Zjj (.w 4 Zjk (.w 4 Zjl (.w 4 Zjm (.w 4 Zjn (.w 4 Zjo (.w 4 Zjp (.w 4 Zjq (.w 4 Zjr (.w 4 Zjs (.w 4 Zjt .z))))))))))))))))))
theorem qRF:YF PP qna qey=[qst,qzE]:=by kernel_rfl
def qzF (k:Nat):TQ→T
 | .next _ _ l=>l.getD k .z|_=>.z
theorem qRG (ρ:Nat→D):toL ((qzF 2 qst).den (wOf PP qey) ρ)=(List.range 32).map fun i=>(K.i .u8).den (cel (wOf PP qey 190 [.list (toL (ρ 0))]) i):=by kernel_rfl
theorem qRH {ds:List D} {d:D} (hp:qM qiW ds) (h:Ev0 PP qna qey ds d):qsr ds d:=by
 intro hl;refine Jf qRF (I:=fun k ρ=>qRD (qbO (toL (qa ds 0))) ρ) (Q:=fun d=>d=.agg (cpN (qbO (toL (qa ds 0))) 16)) ?_ ?_ h
 ·intro k st q ρ d hst hq hg hi ht;rcases k with _|k
  ·have hq:qzE=q:=by simpa using hq
   subst hq;obtain⟨i1,i2,i3,i4⟩:=hi;rcases ht with⟨hlt,_,hn⟩|⟨hge,_,rfl⟩
   ·have hlt:decide (toI (ρ 1)<16)=true:=hlt;have hlt:=of_decide_eq_true hlt;have e1:(toI (ρ 1)+1).toNat=toN (ρ 1)+1:=by unfold toN; omega
    refine hn ⟨?_,?_,i3,?_⟩
    ·show 0≤toI (ρ 1)+1;omega
    ·show toI (ρ 1)+1≤16;omega
    ·show(toL (ρ 3)).set (toN (ρ 1)) (.int .u8 (gw (toL (ρ 2)) (toN (ρ 1))))=cpN _ (toI (ρ 1)+1).toNat;rw[e1,i3,i4];rfl
   ·have hge:decide (toI (ρ 1)<16)=false:=hge;have hge:=of_decide_eq_false hge;have e:toN (ρ 1)=16:=by unfold toN; omega
    rw[e]at i4;show D.agg ((List.range 16).map fun i=>(K.i .u8).den ((toL (ρ 3)).getD i .nilp))=_;rw[i4,qzD (qm8 _ 16) (qm9 _ 16)]
  ·simp at hq
 ·intro d ht;obtain⟨⟨c1,_⟩,hn⟩:=ht;have f1:qsz _ _:=(c1 qsA rfl).2.2;have f1:wOf PP qey 190 [.list (toL (qa ds 0))]=.agg (qbO (toL (qa ds 0))):=f1 hl;refine hn ⟨?_,?_,?_,?_⟩
  ·show(0:Int)≤0;decide
  ·show(0:Int)≤16;decide
  ·show toL ((qzF 2 qst).den (wOf PP qey) (qa ds))=_;rw[qRG,f1];exact qRC (qiX (qaF (qae (toL (qa ds 0))) ivL) 32) (qnf (qaF (qae (toL (qa ds 0))) ivL) 32)
  ·rfl
theorem qRI:qp PP 108 qss:=qRE.more fun ds d hp _ h=>⟨fun f hf=>(by cases hf),qRH hp h⟩
def OfQ (ds:List D) (d:D):Prop:=(inP (toI (qa ds 0)) (toL (qa ds 1)) (toL (qa ds 1)).length).length=35→d=.agg (cpN (qbO (inP (toI (qa ds 0)) (toL (qa ds 1)) (toL (qa ds 1)).length)) 16)
theorem qzq {ws:List D} (hl:ws.length=16) (hi:∀x∈ws,∃n:Int,x=.int .u8 n):((List.range 16).map fun i=>(K.i .u8).den (cel (.agg ws) i))=ws:=qzD hl hi
def qcU:Con:={pts:=[.i .i64,ZgH],pre:=[],rts:=[Zba],post:=[]}
def qmS:RFn:=mF 50 qcU []
def qbm:Tab:=[(109,qrO),(108,qss)]
theorem qzr:Ye PP 50 qcU (Ev0 PP qmS qbm):=fe qmS qbm (qm qOU (qm qRI (qu))) (by kernel_rfl) ⟨fun ρ=>by kernel_rfl,trivial⟩
theorem qmT:qp PP 50 qcU:=qzr.ok
def qsa:Con:={qcU with post:=qcU.post++[],fact:=OfQ}
def qsb:TQ:=.done [(109,[Zax,Z7]),(108,[ZiV])] (.u 2 0 (.w 4 (.mk (.i .u8) (.u 1 0 Zaq)) (.w 4 (.mk (.i .u8) (.u 1 1 Zaq)) (.w 4 (.mk (.i .u8) (.u 1 2 Zaq)) (.w 4 (.mk (.i .u8) (.u 1 3 Zaq)) (.w 4 (.mk (.i .u8) (.u 1 4 Zaq)) (.w 4 (.mk (.i .u8) (.u 1 5 Zaq)) (.w 4 (.mk (.i .u8) (.u 1 6 Zaq)) (.w 4 (.mk (.i .u8) (.u 1 7 Zaq)) (.w 4 (.mk (.i .u8) (.u 1 8 Zaq)) (.w 4 (.mk (.i .u8) (.u 1 9 Zaq)) (.w 4 (.mk (.i .u8) (.u 1 10 Zaq)) (.w 4 (.mk (.i .u8) (.u 1 11 Zaq)) (.w 4 (.mk (.i .u8) (.u 1 12 Zaq)) (.w 4 (.mk (.i .u8) (.u 1 13 Zaq)) (.w 4 (.mk (.i .u8) (.u 1 14 Zaq)) (.w 4 (.mk (.i .u8) (.u 1 15 Zaq)) .z)))))))))))))))))
theorem qQo:YF PP qmS qbm=[qsb]:=by kernel_rfl
def qmU:TQ→T
 | .done _ t=>t|_=>.z
theorem qQp (ρ:Nat→D):(qmU qsb).den (wOf PP qbm) ρ=.agg ((List.range 16).map fun i=>(K.i .u8).den (cel (wOf PP qbm 108 [.list (toL (wOf PP qbm 109 [.int .i64 (toI (ρ 0)),.list (toL (ρ 1))]))]) i)):=by kernel_rfl
theorem qQq {ds:List D} {d:D} (hp:qM qcU ds) (h:Ev0 PP qmS qbm ds d):OfQ ds d:=by
 intro hl;refine Jf qQo (I:=fun k ρ=>False) (Q:=fun d=>d=.agg (cpN (qbO (inP (toI (qa ds 0)) (toL (qa ds 1)) (toL (qa ds 1)).length)) 16)) (fun k st q ρ d hst hq hg hi ht=>hi.elim) ?_ h;intro d ht;obtain⟨⟨c1,c2,_⟩,rfl⟩:=ht;have f1:qmA _ _:=(c1 qrO rfl).2.2;have f2:qsr _ _:=(c2 qss rfl).2.2;have f1:wOf PP qbm 109 [.int .i64 (toI (qa ds 0)),.list (toL (qa ds 1))]=.list (inP (toI (qa ds 0)) (toL (qa ds 1)) (toL (qa ds 1)).length):=f1;have f2:(toL (wOf PP qbm 109 [.int .i64 (toI (qa ds 0)),.list (toL (qa ds 1))])).length=35→wOf PP qbm 108 [.list (toL (wOf PP qbm 109 [.int .i64 (toI (qa ds 0)),.list (toL (qa ds 1))]))]=.agg (cpN (qbO (toL (wOf PP qbm 109 [.int .i64 (toI (qa ds 0)),.list (toL (qa ds 1))]))) 16):=f2;show(qmU qsb).den (wOf PP qbm) (qa ds)=_;rw[f1]at f2;have f2:=f2 hl;rw[qQp,f1,f2,qzq (qm8 _ 16) (qm9 _ 16)];rfl
theorem qQr:qp PP 50 qsa:=qzr.more fun ds d hp _ h=>⟨fun f hf=>(by cases hf),qQq hp h⟩
def qrY:Con:={pts:=[Zc9],pre:=[],rts:=[Zba],post:=[]}
def qPB:RFn:=mF 278 qrY []
def qPC:Tab:=[(100,qro),(50,qcU)]
theorem qPD:qp PP 278 qrY:=(fe qPB qPC (qm qMg (qm qmT (qu))) (by kernel_rfl) ⟨fun ρ=>by kernel_rfl,trivial⟩).ok
def qrZ:Con:={pts:=[Zu],pre:=[],rts:=[Zba],post:=[]}
def qPE:RFn:=mF 187 qrZ [⟨3,[(0,.o (.c .l Ze)),(2,Zc4),(3,Zbo),(4,Zbc)],[Zc8],[Zu],[ZaM,.le Za Zt,.nle (.w 0 Za Za) ZbR,ZB],(Za,.w 1 Zt Za,Zk,Za,Za,Za)⟩,⟨3,[(0,.o (.c .l Ze)),(2,Zc4),(3,.o (.sl 1 1 Za Zc Zb false)),(4,Zbb)],[Zc8,Zd8],[Zu,.i .i64,.i .i64,.i .i64,.l 301 (.s 16)],[Z6,Zfk,Zct,ZiL,ZcD],(Za,ZfE,Zk,Za,Za,Za)⟩]
def qPF:Tab:=[(278,qrY),(186,qiZ),(50,qcU)]
theorem qPG:qp PP 187 qrZ:=(fe qPE qPF (qm qPD (qm qsB (qm qmT (qu)))) (by kernel_rfl) (by refine⟨?_,?_,?_,trivial⟩<;>intro<;>kernel_rfl)).ok
def qsH:Con:={pts:=[qd4,Zba],pre:=[],rts:=[Zba],post:=[]}
def qS6:RFn:=mF 97 qsH []
def qS7:Tab:=[(185,qgP),(186,qiZ),(50,qcU)]
theorem qS8:qp PP 97 qsH:=(fe qS6 qS7 (qm qMl (qm qsB (qm qmT (qu)))) (by kernel_rfl) ⟨fun ρ=>by kernel_rfl,trivial⟩).ok
def qrf:Con:={pts:=[qe3],pre:=[],rts:=[Zba],post:=[]}
def qiC:RFn:={g:=98,con:=qrf,wr:=false,pn:=14,rec':={ms:=[(98,.u 8 2 Zd6),(44,.w 0 (.u 8 2 Zd6) Zg)],cur:=.u 8 2 Zd6},sts:=[{id:=5,env:=[(1,Zc4),(2,ZbL),(3,Zbo),(4,Zbc)],rows:=[Zc7,Zc8],tys:=[qe3],inv:=[],ms:=(Za,.w 1 Zcr Za,Zk,Za,Za,Za)},{id:=5,env:=[(1,Zc4),(2,ZbL),(3,.o (.sl 2 1 Za Zc Zb false)),(4,Zbb)],rows:=[Zc7,Zc8,Zd8],tys:=[qe3,.i .i64,.i .i64,.i .i64,.l 301 Zcf],inv:=[Zcs,ZbM,Zct],ms:=(Za,.w 1 Zcr Zd,Zk,Za,Za,Za)}]}
def qiD:Con:={pts:=[qe3],pre:=[],rts:=[Zba],post:=[]}
def qiE:RFn:={g:=44,con:=qiD,wr:=false,pn:=14,rec':={ms:=[(44,.w 0 (.u 8 2 Zd6) Zg),(98,.u 8 2 Zd6)],cur:=.w 0 (.u 8 2 Zd6) Zg},sts:=[]}
def qyB:Tab:=[(187,qrZ),(186,qiZ),(50,qcU),(97,qsH)]
theorem qK0:qaU PP qyB:=qm qPG (qm qsB (qm qmT (qm qS8 qu)))
def qgL:Tab:=(98,qrf)::(44,qiD)::qyB
theorem qK1:qaj PP qiC qgL=true:=by kernel_rfl
theorem qK2:qak PP qiC qgL (qI PP qiC):=by refine⟨?_,?_,?_,trivial⟩<;>intro<;>kernel_rfl
theorem qK3:qaj PP qiE qgL=true:=by kernel_rfl
theorem qK4:qak PP qiE qgL (qI PP qiE):=⟨fun ρ=>by kernel_rfl,trivial⟩
theorem qK5:Ye PP 98 qrf (Ev0 PP qiC qgL)∧Ye PP 44 qiD (Ev0 PP qiE qgL):=qGw (fa:=qiC) (fb:=qiE) YN mixed qK0 rfl rfl rfl rfl qK1 qK2 qK3 qK4
theorem qK6:qp PP 44 qiD:=qK5.2.ok
def qm5 (ds:List D) (d:D):Prop:=d=.agg (fW (wS (toL (qa ds 0))) 64)
structure qRr (b:List D) (ρ:Nat→D):Prop where
 l:toL (ρ 2)=fW (wS b) (toN (ρ 1))
 lo:0≤toI (ρ 1)
 hi:toI (ρ 1)≤64
structure qRs (b:List D) (ρ:Nat→D):Prop where
 l:toL (ρ 3)=(fW (wS b) (toN (ρ 1))).set (toN (ρ 1)) (.int .u32 (qiB b (toN (ρ 1)) (toN (ρ 2))))
 lo:0≤toI (ρ 1)
 hi:toI (ρ 1)<16
 lo2:0≤toI (ρ 2)
 hi2:toI (ρ 2)≤4
theorem qm6 {b:List D} (h:∀x∈b,qj .y8 x) {i:Nat} (hi:i<b.length):∃n:Nat,n<256∧gw b i=n:=by
 have h1:=h _ (qTL hi);obtain⟨c,hn⟩:∃c:UInt8,b[i]=Yr c:=h1;refine⟨c.toNat,c.toNat_lt,?_⟩;unfold gw;rw[List.getD_eq_getElem?_getD,qTE hi,qTT,hn];rfl
theorem qRt {b ws:List D} (h:∀x∈b,qj .y8 x) (hl:64≤b.length) {t:Nat} (ht:t<16):qiB b t 4=wS b ws t:=by
 obtain⟨b0,l0,e0⟩:=qm6 h (i:=4*t) (by omega);obtain⟨b1,l1,e1⟩:=qm6 h (i:=4*t+1) (by omega);obtain⟨b2,l2,e2⟩:=qm6 h (i:=4*t+2) (by omega);obtain⟨b3,l3,e3⟩:=qm6 h (i:=4*t+3) (by omega);rw[qyo (by rw[qT0]; exact ht)];show M44.orI (YI (M44.orI (YI (M44.orI (YI (M44.orI (YI 0 8) (u32 (gw b (4*t+0)))) 8) (u32 (gw b (4*t+1)))) 8) (u32 (gw b (4*t+2)))) 8) (u32 (gw b (4*t+3)))=_;rw[qUQ,e0,e1,e2,e3];exact qKl l0 l1 l2 l3
def qiV:Con:={pts:=[ZbG],pre:=[.nle ZL Zt],rts:=[.g (.ec (.i .u32) (.ec (.i .u32) (.ec (.i .u32) (.ec (.i .u32) (.ec (.i .u32) (.ec (.i .u32) (.ec (.i .u32) (.ec (.i .u32) (.ec (.i .u32) (.ec (.i .u32) (.ec (.i .u32) (.ec (.i .u32) (.ec (.i .u32) (.ec (.i .u32) (.ec (.i .u32) (.ec (.i .u32) (.ec (.i .u32) (.ec (.i .u32) (.ec (.i .u32) (.ec (.i .u32) (.ec (.i .u32) (.ec (.i .u32) (.ec (.i .u32) (.ec (.i .u32) (.ec (.i .u32) (.ec (.i .u32) (.ec (.i .u32) (.ec (.i .u32) (.ec (.i .u32) (.ec (.i .u32) (.ec (.i .u32) (.ec (.i .u32) (.ec (.i .u32) (.ec (.i .u32) (.ec (.i .u32) (.ec (.i .u32) (.ec (.i .u32) (.ec (.i .u32) (.ec (.i .u32) (.ec (.i .u32) (.ec (.i .u32) (.ec (.i .u32) (.ec (.i .u32) (.ec (.i .u32) (.ec (.i .u32) (.ec (.i .u32) (.ec (.i .u32) (.ec (.i .u32) (.ec (.i .u32) (.ec (.i .u32) (.ec (.i .u32) (.ec (.i .u32) (.ec (.i .u32) (.ec (.i .u32) (.ec (.i .u32) (.ec (.i .u32) ZhA))))))))))))))))))))))))))))))))))))))))))))))))))))))))],post:=[]}
def qm7:RFn:=mF 279 qiV [⟨3,[(0,.o (.c .l Ze)),(2,Zc4),(3,ZbL),(11,ZbK)],ZgZ,Zg0,[.nle ZL Zw,Z5],(Za,.w 1 ZL Zc,Zk,Za,Za,Za)⟩,⟨7,[(0,.o (.c .l Ze)),(2,Zc4),(3,ZbL),(4,ZbK),(11,ZbK),(22,.o (.c .l Zg1)),(23,.o (.c (.i .i64) (.u 0 0 Zg1))),(24,Zbr)],[Zi5,ZhC],[ZbG,.i .i64,.i .i64,Zev],[.nle ZL Zab,Z5,ZZ,.bool Zfp true],(Za,.w 1 ZL Zc,Za,.w 1 (.u 0 0 Zg1) Zb,Zk,Za)⟩]
def qbN:Tab:=[(390,qbJ)]
theorem qRu:Ye PP 279 qiV (Ev0 PP qm7 qbN):=fe qm7 qbN (qm qym (qu)) (by kernel_rfl) (by refine⟨?_,?_,?_,trivial⟩<;>intro<;>kernel_rfl)
def qsp:Con:={qiV with post:=qiV.post++[],fact:=qm5}
def qRv:TQ:=.next [] 0 [Ze,Za,.w 4 Zn (.w 4 Zn (.w 4 Zn (.w 4 Zn (.w 4 Zn (.w 4 Zn (.w 4 Zn (.w 4 Zn (.w 4 Zn (.w 4 Zn (.w 4 Zn (.w 4 Zn (.w 4 Zn (.w 4 Zn (.w 4 Zn (.w 4 Zn (.w 4 Zn (.w 4 Zn (.w 4 Zn (.w 4 Zn (.w 4 Zn (.w 4 Zn (.w 4 Zn (.w 4 Zn (.w 4 Zn (.w 4 Zn (.w 4 Zn (.w 4 Zn (.w 4 Zn (.w 4 Zn (.w 4 Zn (.w 4 Zn (.w 4 Zn (.w 4 Zn (.w 4 Zn (.w 4 Zn (.w 4 Zn (.w 4 Zn (.w 4 Zn (.w 4 Zn (.w 4 Zn (.w 4 Zn (.w 4 Zn (.w 4 Zn (.w 4 Zn (.w 4 Zn (.w 4 Zn (.w 4 Zn (.w 4 Zn (.w 4 Zn (.w 4 Zn (.w 4 Zn (.w 4 Zn (.w 4 Zn (.w 4 Zn (.w 4 Zn (.w 4 Zn (.w 4 Zn (.w 4 Zn (.w 4 Zn (.w 4 Zn (.w 4 Zn (.w 4 Zn (.w 4 Zn .z)))))))))))))))))))))))))))))))))))))))))))))))))))))))))))))))]
def qzB:TQ:=.fork (.w 10 Zc ZL) (.fork Zfp (.next [] 1 [Ze,Zc,Za,Zb]) (.next [(390,[.mk (.i .u32) (.w 3 (.v 2) (.w 1 (.v 1) (.i 15))),.mk (.i .i64) (.i (-7))]),(390,[.mk (.i .u32) (.w 3 (.v 2) (.w 1 (.v 1) (.i 15))),.mk (.i .i64) (.i (-18))]),(390,[.mk (.i .u32) (.w 3 (.v 2) (.w 1 (.v 1) (.i 2))),.mk (.i .i64) (.i (-17))]),(390,[.mk (.i .u32) (.w 3 (.v 2) (.w 1 (.v 1) (.i 2))),.mk (.i .i64) (.i (-19))])] 0 [Ze,ZbF,.w 21 Zb (.u 2 0 (.w 4 Zbi (.w 4 (.mk (.i .u32) (.u 5 2 (.w 0 (.u 5 2 (.w 0 (.u 5 2 (.w 0 Zjc (.w 162 (.w 162 (.u 3 390 (.w 4 ZbH (.w 4 Zi7 .z))) (.u 3 390 (.w 4 ZbH (.w 4 Zi8 .z)))) (.w 132 Zi6 Zad)))) Zjd)) (.w 162 (.w 162 (.u 3 390 (.w 4 ZbI (.w 4 Zja .z))) (.u 3 390 (.w 4 ZbI (.w 4 Zjb .z)))) (.w 132 Zi9 Zbn))))) .z)))])) (.done [] (.u 2 0 (.w 4 (.mk (.i .u32) (.w 3 Zb Za)) (.w 4 (.mk (.i .u32) (.w 3 Zb Zg)) (.w 4 (.mk (.i .u32) (.w 3 Zb ZY)) (.w 4 (.mk (.i .u32) (.w 3 Zb Zad)) (.w 4 (.mk (.i .u32) (.w 3 Zb Z0)) (.w 4 (.mk (.i .u32) (.w 3 Zb (.i 5))) (.w 4 (.mk (.i .u32) (.w 3 Zb (.i 6))) (.w 4 (.mk (.i .u32) (.w 3 Zb (.i 7))) (.w 4 (.mk (.i .u32) (.w 3 Zb Z8)) (.w 4 (.mk (.i .u32) (.w 3 Zb (.i 9))) (.w 4 (.mk (.i .u32) (.w 3 Zb Zbn)) (.w 4 (.mk (.i .u32) (.w 3 Zb (.i 11))) (.w 4 (.mk (.i .u32) (.w 3 Zb (.i 12))) (.w 4 (.mk (.i .u32) (.w 3 Zb (.i 13))) (.w 4 (.mk (.i .u32) (.w 3 Zb (.i 14))) (.w 4 (.mk (.i .u32) (.w 3 Zb (.i 15))) (.w 4 (.mk (.i .u32) (.w 3 Zb Zau)) (.w 4 (.mk (.i .u32) (.w 3 Zb (.i 17))) (.w 4 (.mk (.i .u32) (.w 3 Zb (.i 18))) (.w 4 (.mk (.i .u32) (.w 3 Zb (.i 19))) (.w 4 (.mk (.i .u32) (.w 3 Zb (.i 20))) (.w 4 (.mk (.i .u32) (.w 3 Zb (.i 21))) (.w 4 (.mk (.i .u32) (.w 3 Zb (.i 22))) (.w 4 (.mk (.i .u32) (.w 3 Zb (.i 23))) (.w 4 (.mk (.i .u32) (.w 3 Zb (.i 24))) (.w 4 (.mk (.i .u32) (.w 3 Zb (.i 25))) (.w 4 (.mk (.i .u32) (.w 3 Zb (.i 26))) (.w 4 (.mk (.i .u32) (.w 3 Zb (.i 27))) (.w 4 (.mk (.i .u32) (.w 3 Zb (.i 28))) (.w 4 (.mk (.i .u32) (.w 3 Zb (.i 29))) (.w 4 (.mk (.i .u32) (.w 3 Zb (.i 30))) (.w 4 (.mk (.i .u32) (.w 3 Zb (.i 31))) (.w 4 (.mk (.i .u32) (.w 3 Zb ZbP)) (.w 4 (.mk (.i .u32) (.w 3 Zb (.i 33))) (.w 4 (.mk (.i .u32) (.w 3 Zb (.i 34))) (.w 4 (.mk (.i .u32) (.w 3 Zb (.i 35))) (.w 4 (.mk (.i .u32) (.w 3 Zb (.i 36))) (.w 4 (.mk (.i .u32) (.w 3 Zb (.i 37))) (.w 4 (.mk (.i .u32) (.w 3 Zb (.i 38))) (.w 4 (.mk (.i .u32) (.w 3 Zb (.i 39))) (.w 4 (.mk (.i .u32) (.w 3 Zb (.i 40))) (.w 4 (.mk (.i .u32) (.w 3 Zb (.i 41))) (.w 4 (.mk (.i .u32) (.w 3 Zb (.i 42))) (.w 4 (.mk (.i .u32) (.w 3 Zb (.i 43))) (.w 4 (.mk (.i .u32) (.w 3 Zb (.i 44))) (.w 4 (.mk (.i .u32) (.w 3 Zb (.i 45))) (.w 4 (.mk (.i .u32) (.w 3 Zb (.i 46))) (.w 4 (.mk (.i .u32) (.w 3 Zb (.i 47))) (.w 4 (.mk (.i .u32) (.w 3 Zb (.i 48))) (.w 4 (.mk (.i .u32) (.w 3 Zb (.i 49))) (.w 4 (.mk (.i .u32) (.w 3 Zb (.i 50))) (.w 4 (.mk (.i .u32) (.w 3 Zb (.i 51))) (.w 4 (.mk (.i .u32) (.w 3 Zb (.i 52))) (.w 4 (.mk (.i .u32) (.w 3 Zb (.i 53))) (.w 4 (.mk (.i .u32) (.w 3 Zb (.i 54))) (.w 4 (.mk (.i .u32) (.w 3 Zb (.i 55))) (.w 4 (.mk (.i .u32) (.w 3 Zb (.i 56))) (.w 4 (.mk (.i .u32) (.w 3 Zb (.i 57))) (.w 4 (.mk (.i .u32) (.w 3 Zb (.i 58))) (.w 4 (.mk (.i .u32) (.w 3 Zb (.i 59))) (.w 4 (.mk (.i .u32) (.w 3 Zb ZbJ)) (.w 4 (.mk (.i .u32) (.w 3 Zb (.i 61))) (.w 4 (.mk (.i .u32) (.w 3 Zb (.i 62))) (.w 4 (.mk (.i .u32) (.w 3 Zb (.i 63))) .z))))))))))))))))))))))))))))))))))))))))))))))))))))))))))))))))))
def qzC:TQ:=.fork (.w 10 Zb (.u 0 0 Zg1)) (.next [] 1 [Ze,Zc,Zc1,.w 21 Zd (.u 2 0 (.w 4 Zbi (.w 4 (.mk (.i .u32) (.w 152 (.w 122 (.w 3 Zd Zc) Z8) (.u 5 2 (.w 3 Zg1 Zb)))) .z)))]) (.next [] 0 [Ze,ZbF,Zd])
theorem qRw:YF PP qm7 qbN=[qRv,qzB,qzC]:=by kernel_rfl
theorem qRx {ds:List D} {d:D} (hp:qM qiV ds) (h:Ev0 PP qm7 qbN ds d):qm5 ds d:=by
 obtain⟨b,hb0,hbl,hby⟩:∃b:List D,qa ds 0=.list b∧b.length≤2199023255552∧∀x∈b,qj .y8 x:=by
  match ds,hp.1.1 with
  | [a],_=>exact hp.1.2 0 _ rfl
 have hl:64≤b.length:=by
  have h1:=hp.2 _ (qTR ..);have h2:(64:Int).toNat≤((toL (qa ds 0)).length:Int).toNat:=h1;rw[hb0]at h2;have h3:(64:Int).toNat≤(b.length:Int).toNat:=h2;omega
 have eb:toL (qa ds 0)=b:=by rw[hb0]; rfl
 have inner:∀t:Int,0≤t→t<16→((b.drop (4*t).toNat).take ((4*t+4).toNat - (4*t).toNat)).length=4:=by
  intro t h0 h1;rw[qTU,qT8];omega
 refine Jf qRw (I:=fun k ρ=>match k with
  | 0=>qRr b ρ|_=>qRs b ρ) (Q:=qm5 ds) ?_ ?_ h
 ·intro k st q ρ d hst hq hg hi ht;have h0:=hg.arg 0 (by decide);rw[hb0]at h0;rcases k with _|_|k
  ·have hq:qzB=q:=by simpa using hq
   subst hq;obtain⟨i1,i2,i3⟩:=hi;rcases ht with⟨hlt,ht⟩|⟨hge,_,rfl⟩
   ·have hlt:decide (toI (ρ 1)<64)=true:=hlt;have hlt:=of_decide_eq_true hlt;rcases ht with⟨h16,_,hn⟩|⟨h16,hc,hn⟩
    ·have h16:decide (toI (ρ 1)<16)=true:=h16;have h16:=of_decide_eq_true h16;refine hn ⟨?_,i2,h16,?_,?_⟩
     ·show toL (ρ 2)=(fW (wS b) (toN (ρ 1))).set (toN (ρ 1)) (.int .u32 0);rw[qKn (wS b) (by unfold toN; omega),i1]
     ·show(0:Int)≤0;decide
     ·show(0:Int)≤4;decide
    ·have h16:decide (toI (ρ 1)<16)=false:=h16;have h16:=of_decide_eq_false h16;refine hn ⟨?_,?_,?_⟩
     ·obtain⟨c1,c2,c3,c4,_⟩:=hc;have f1:qeo _ _:=(c1 qbJ rfl).2.2;have f2:qeo _ _:=(c2 qbJ rfl).2.2;have f3:qeo _ _:=(c3 qbJ rfl).2.2;have f4:qeo _ _:=(c4 qbJ rfl).2.2;show(toL (ρ 2)).set (toN (ρ 1)) (.int .u32 (qD (qD (qD (gw (toL (ρ 2)) (toI (ρ 1) - 16).toNat) (M44.qF (M44.qF (toI (wOf PP qbN 390 (List.map (T.den (wOf PP qbN) ρ) [(.mk (.i .u32) (.w 3 (.v 2) (.w 1 (.v 1) (.i 15)))),(.mk (.i .i64) (.i (-7)))]))) (toI (wOf PP qbN 390 (List.map (T.den (wOf PP qbN) ρ) [(.mk (.i .u32) (.w 3 (.v 2) (.w 1 (.v 1) (.i 15)))),(.mk (.i .i64) (.i (-18)))])))) (qbK (gw (toL (ρ 2)) (toI (ρ 1) - 15).toNat) 3))) (gw (toL (ρ 2)) (toI (ρ 1) - 7).toNat)) (M44.qF (M44.qF (toI (wOf PP qbN 390 (List.map (T.den (wOf PP qbN) ρ) [(.mk (.i .u32) (.w 3 (.v 2) (.w 1 (.v 1) (.i 2)))),(.mk (.i .i64) (.i (-17)))]))) (toI (wOf PP qbN 390 (List.map (T.den (wOf PP qbN) ρ) [(.mk (.i .u32) (.w 3 (.v 2) (.w 1 (.v 1) (.i 2)))),(.mk (.i .i64) (.i (-19)))])))) (qbK (gw (toL (ρ 2)) (toI (ρ 1) - 2).toNat) 10))))=fW _ (toI (ρ 1)+1).toNat;rw[f1,f2,f3,f4];show(toL (ρ 2)).set (toN (ρ 1)) (.int .u32 (qD (qD (qD (gw (toL (ρ 2)) (toI (ρ 1) - 16).toNat) (M44.qF (M44.qF (M44.qA (gw (toL (ρ 2)) (toI (ρ 1) - 15).toNat) (32 - 7) 7) (M44.qA (gw (toL (ρ 2)) (toI (ρ 1) - 15).toNat) (32 - 18) 18)) (qbK (gw (toL (ρ 2)) (toI (ρ 1) - 15).toNat) 3))) (gw (toL (ρ 2)) (toI (ρ 1) - 7).toNat)) (M44.qF (M44.qF (M44.qA (gw (toL (ρ 2)) (toI (ρ 1) - 2).toNat) (32 - 17) 17) (M44.qA (gw (toL (ρ 2)) (toI (ρ 1) - 2).toNat) (32 - 19) 19)) (qbK (gw (toL (ρ 2)) (toI (ρ 1) - 2).toNat) 10))))=fW _ (toI (ρ 1)+1).toNat;have e0:(toI (ρ 1) - 16).toNat=toN (ρ 1) - 16:=by unfold toN; omega
      have e1:(toI (ρ 1) - 15).toNat=toN (ρ 1) - 15:=by unfold toN; omega
      have e2:(toI (ρ 1) - 7).toNat=toN (ρ 1) - 7:=by unfold toN; omega
      have e3:(toI (ρ 1) - 2).toNat=toN (ρ 1) - 2:=by unfold toN; omega
      have e4:(toI (ρ 1)+1).toNat=toN (ρ 1)+1:=by unfold toN; omega
      have e5:Nat.blt (toN (ρ 1)) 16=false:=by
       rw[←Bool.not_eq_true,qT0]; unfold toN; omega
      rw[e0,e1,e2,e3,e4,i1];rw[qix,qyp e5];rw[qfx,qfx,qfx,qfx];rfl
     ·show 0≤toI (ρ 1)+1;omega
     ·show toI (ρ 1)+1≤64;omega
   ·have hge:decide (toI (ρ 1)<64)=false:=hge;have hge:=of_decide_eq_false hge;have e:toN (ρ 1)=64:=by unfold toN; omega
    rw[e]at i1;show D.agg ((List.range 64).map fun i=>(K.i .u32).den ((toL (ρ 2)).getD i .nilp))=_;rw[i1,ql4 (qgK _ 64) (qiy _ 64),eb]
  ·have hq:qzC=q:=by simpa using hq
   subst hq;obtain⟨i1,i2,i3,i4,i5⟩:=hi;have ein:((((toL (ρ 0)).drop (4*toI (ρ 1)).toNat).take (((4*toI (ρ 1)+4).toNat - (4*toI (ρ 1)).toNat:Nat):Int).toNat)).length=4:=by
    rw[h0,qTK];exact inner _ i2 i3
   rcases ht with⟨hlt,_,hn⟩|⟨hge,_,hn⟩
   ·have hlt:decide (toI (ρ 2)<(((((toL (ρ 0)).drop (4*toI (ρ 1)).toNat).take (((4*toI (ρ 1)+4).toNat - (4*toI (ρ 1)).toNat:Nat):Int).toNat)).length:Int))=true:=hlt;rw[ein]at hlt;have hlt:=of_decide_eq_true hlt;refine hn ⟨?_,i2,i3,?_,?_⟩
    ·show(toL (ρ 3)).set (toN (ρ 1)) (.int .u32 (M44.orI (YI (gw (toL (ρ 3)) (toN (ρ 1))) 8) (u32 (gw (((toL (ρ 0)).drop (4*toI (ρ 1)).toNat).take (((4*toI (ρ 1)+4).toNat - (4*toI (ρ 1)).toNat:Nat):Int).toNat) (toN (ρ 2))))))=(fW (wS b) (toN (ρ 1))).set (toN (ρ 1)) (.int .u32 (qiB b (toN (ρ 1)) (toI (ρ 2)+1).toNat));have e4:(toI (ρ 2)+1).toNat=toN (ρ 2)+1:=by unfold toN; omega
     have eg:gw (((toL (ρ 0)).drop (4*toI (ρ 1)).toNat).take (((4*toI (ρ 1)+4).toNat - (4*toI (ρ 1)).toNat:Nat):Int).toNat) (toN (ρ 2))=gw b (4*toN (ρ 1)+toN (ρ 2)):=by
      unfold gw;rw[h0];show toI ((List.take _ (List.drop (4*toI (ρ 1)).toNat b)).getD _ _)=_;rw[List.getD_eq_getElem?_getD,List.getD_eq_getElem?_getD,qUh,if_pos (by rw[qTK]; unfold toN; omega),qUk];have:(4*toI (ρ 1)).toNat=4*toN (ρ 1):=by unfold toN; omega
      rw[this]
     have ea:gw (toL (ρ 3)) (toN (ρ 1))=qiB b (toN (ρ 1)) (toN (ρ 2)):=by
      unfold gw;rw[i1,List.getD_eq_getElem?_getD,qUV (by rw[qgK]; unfold toN; omega)];rfl
     rw[eg,ea,e4,i1,List.set_set];rfl
    ·show 0≤toI (ρ 2)+1;omega
    ·show toI (ρ 2)+1≤4;omega
   ·have hge:decide (toI (ρ 2)<(((((toL (ρ 0)).drop (4*toI (ρ 1)).toNat).take (((4*toI (ρ 1)+4).toNat - (4*toI (ρ 1)).toNat:Nat):Int).toNat)).length:Int))=false:=hge;rw[ein]at hge;have hge:=of_decide_eq_false hge;refine hn ⟨?_,?_,?_⟩
    ·show toL (ρ 3)=fW (wS b) (toI (ρ 1)+1).toNat;have e4:(toI (ρ 1)+1).toNat=toN (ρ 1)+1:=by unfold toN; omega
     have e5:toN (ρ 2)=4:=by unfold toN; omega
     rw[e4,qix,i1,e5,qRt hby hl (by unfold toN; omega)]
    ·show 0≤toI (ρ 1)+1;omega
    ·show toI (ρ 1)+1≤64;omega
  ·simp at hq
 ·intro d ht;refine ht.2 ⟨rfl,?_,?_⟩
  ·show(0:Int)≤0;decide
  ·show(0:Int)≤64;decide
theorem qRy:qp PP 279 qsp:=qRu.more fun ds d hp _ h=>⟨fun f hf=>(by cases hf),qRx hp h⟩
def qiN (ds:List D) (d:D):Prop:=d=.int .u32 (M44.qF (M44.qF (Jx (toI (qa ds 0)) (toI (qa ds 1)).toNat) (Jx (toI (qa ds 0)) (toI (qa ds 2)).toNat)) (Jx (toI (qa ds 0)) (toI (qa ds 3)).toNat))
def qiO:Con:={pts:=[.i .u32,.i .i64,.i .i64,.i .i64],pre:=[.le Zg Zc,.le Zc (.i 31),ZbU,.le Zb (.i 31),Zbs,.le Zd (.i 31)],rts:=[.i .u32],post:=[]}
def qmJ:RFn:=mF 280 qiO []
def qcS:Tab:=[(390,qbJ)]
theorem qP1:Ye PP 280 qiO (Ev0 PP qmJ qcS):=fe qmJ qcS (qm qym (qu)) (by kernel_rfl) ⟨fun ρ=>by kernel_rfl,trivial⟩
def qmK:Con:={qiO with post:=qiO.post++[],fact:=qiN}
def qP2:TQ:=.done [(390,[.mk (.i .u32) (.v 0),.mk (.i .i64) (.u 5 0 (.u 9 0 (.v 1)))]),(390,[.mk (.i .u32) (.v 0),.mk (.i .i64) (.u 5 0 (.u 9 0 (.v 2)))]),(390,[.mk (.i .u32) (.v 0),.mk (.i .i64) (.u 5 0 (.u 9 0 (.v 3)))])] (.mk (.i .u32) (.w 162 (.w 162 (.u 3 390 (.w 4 ZcW (.w 4 ZiN .z))) (.u 3 390 (.w 4 ZcW (.w 4 ZiO .z)))) (.u 3 390 (.w 4 ZcW (.w 4 ZiP .z)))))
theorem qP3:YF PP qmJ qcS=[qP2]:=by kernel_rfl
theorem qP4 {ds:List D} {d:D} (hp:qM qiO ds) (h:Ev0 PP qmJ qcS ds d):qiN ds d:=by
 have u64:∀n:Int,1≤n→n≤31→(-IntKind.i64.wrap (0 - n)).toNat=n.toNat:=by
  intro n h0 h1;have:n=1∨n=2∨n=3∨n=4∨n=5∨n=6∨n=7∨n=8∨n=9∨n=10∨n=11∨n=12∨n=13∨n=14∨n=15∨n=16∨n=17∨n=18∨n=19∨n=20∨n=21∨n=22∨n=23∨n=24∨n=25∨n=26∨n=27∨n=28∨n=29∨n=30∨n=31:=by omega
  rcases this with rfl|rfl|rfl|rfl|rfl|rfl|rfl|rfl|rfl|rfl|rfl|rfl|rfl|rfl|rfl|rfl|rfl|rfl|rfl|rfl|rfl|rfl|rfl|rfl|rfl|rfl|rfl|rfl|rfl|rfl|rfl<;>decide
 have p1:1≤toI (qa ds 1):=hp.2 _ (qTR ..);have p2:toI (qa ds 1)≤31:=hp.2 _ (qTG _ (qTR ..));have p3:1≤toI (qa ds 2):=hp.2 _ (qTG _ (qTG _ (qTR ..)));have p4:toI (qa ds 2)≤31:=hp.2 _ (qTG _ (qTG _ (qTG _ (qTR ..))));have p5:1≤toI (qa ds 3):=hp.2 _ (qTG _ (qTG _ (qTG _ (qTG _ (qTR ..)))));have p6:toI (qa ds 3)≤31:=hp.2 _ (qTG _ (qTG _ (qTG _ (qTG _ (qTG _ (qTR ..))))));refine Jf qP3 (I:=fun k ρ=>False) (Q:=qiN ds) (fun k st q ρ d hst hq hg hi ht=>hi.elim) ?_ h;intro d ht;obtain⟨⟨c1,c2,c3,_⟩,rfl⟩:=ht;have f1:qeo _ _:=(c1 qbJ rfl).2.2;have f2:qeo _ _:=(c2 qbJ rfl).2.2;have f3:qeo _ _:=(c3 qbJ rfl).2.2;show D.int .u32 (M44.qF (M44.qF (toI (wOf PP qcS 390 (List.map (T.den (wOf PP qcS) (qa ds)) [(.mk (.i .u32) (.v 0)),(.mk (.i .i64) (.u 5 0 (.u 9 0 (.v 1))))]))) (toI (wOf PP qcS 390 (List.map (T.den (wOf PP qcS) (qa ds)) [(.mk (.i .u32) (.v 0)),(.mk (.i .i64) (.u 5 0 (.u 9 0 (.v 2))))])))) (toI (wOf PP qcS 390 (List.map (T.den (wOf PP qcS) (qa ds)) [(.mk (.i .u32) (.v 0)),(.mk (.i .i64) (.u 5 0 (.u 9 0 (.v 3))))]))))=_;rw[f1,f2,f3];show D.int .u32 (M44.qF (M44.qF (M44.qA (toI (qa ds 0)) (32 - (-IntKind.i64.wrap (0 - toI (qa ds 1))).toNat) (-IntKind.i64.wrap (0 - toI (qa ds 1))).toNat) (M44.qA (toI (qa ds 0)) (32 - (-IntKind.i64.wrap (0 - toI (qa ds 2))).toNat) (-IntKind.i64.wrap (0 - toI (qa ds 2))).toNat)) (M44.qA (toI (qa ds 0)) (32 - (-IntKind.i64.wrap (0 - toI (qa ds 3))).toNat) (-IntKind.i64.wrap (0 - toI (qa ds 3))).toNat))=_;rw[u64 _ p1 p2,u64 _ p3 p4,u64 _ p5 p6,qfx,qfx,qfx]
theorem qP5:qp PP 280 qmK:=qP1.more fun ds d hp _ h=>⟨fun f hf=>(by cases hf),qP4 hp h⟩
def qrl (ds:List D) (d:D):Prop:=d=.agg (qaF (toL (qa ds 1)) (wds (qa ds 0)))
structure qLW (b s:List D) (ρ:Nat→D):Prop where
 lo:0≤toI (ρ 2)
 hi:toI (ρ 2)≤64
 w:toL (ρ 3)=fW (wS b) 64
 a:toL (ρ 4)=(qaE (fW (wS b) 64) s (toN (ρ 2))).take 4
 e:toL (ρ 5)=(qaE (fW (wS b) 64) s (toN (ρ 2))).drop 4
structure qLX (b s:List D) (ρ:Nat→D):Prop where
 lo:0≤toI (ρ 2)
 hi:toI (ρ 2)≤4
 f:toL (ρ 3)=qfu ((qaE (fW (wS b) 64) s 64).take 4) ((qaE (fW (wS b) 64) s 64).drop 4) s (toN (ρ 2))
 a:toL (ρ 4)=(qaE (fW (wS b) 64) s 64).take 4
 e:toL (ρ 5)=(qaE (fW (wS b) 64) s 64).drop 4
def qyK (k w:Int) (A E:List D):List D :=
 [wd (qD (qD (qD (qD (qD (gw E 3) (sg (gw E 0) 6 11 25)) (M44.qF (YZ (gw E 0) (gw E 1)) (YZ (M44.qF 4294967295 (gw E 0)) (gw E 2)))) k) w) (qD (sg (gw A 0) 2 13 22) (M44.qF (M44.qF (YZ (gw A 0) (gw A 1)) (YZ (gw A 0) (gw A 2))) (YZ (gw A 1) (gw A 2))))),wd (gw A 0),wd (gw A 1),wd (gw A 2)]
def qyL (k w:Int) (A E:List D):List D :=
 [wd (qD (gw A 3) (qD (qD (qD (qD (gw E 3) (sg (gw E 0) 6 11 25)) (M44.qF (YZ (gw E 0) (gw E 1)) (YZ (M44.qF 4294967295 (gw E 0)) (gw E 2)))) k) w)),wd (gw E 0),wd (gw E 1),wd (gw E 2)]
theorem qLY {k w:Int} {v:List D} (hv:qac v):qyK k w (v.take 4) (v.drop 4)=(qiw k w v).take 4:=by
 obtain⟨a,b,c,d,e,f,g,h,rfl⟩:=hv;unfold qyK qiw t1S;rw[qyh 4294967295];rfl
theorem qLZ {k w:Int} {v:List D} (hv:qac v):qyL k w (v.take 4) (v.drop 4)=(qiw k w v).drop 4:=by
 obtain⟨a,b,c,d,e,f,g,h,rfl⟩:=hv;unfold qyL qiw t1S;rw[qyh 4294967295];rfl
theorem qL0 {ws:List D} (hl:ws.length=64) (hi:∀x∈ws,∃n:Int,x=.int .u32 n):((List.range 64).map fun i=>(K.i .u32).den (cel (.agg ws) i))=ws:=ql4 hl hi
def qgN:Con:={pts:=[.g ZhA,.l 301 .y8],pre:=[.nle ZL Zi],rts:=[.g ZhA],post:=[]}
def qmh:RFn:=mF 189 qgN [⟨4,[(2,Zc4),(4,ZbL),(5,ZbT),(6,.o (.pt 3 0 Za 0)),(7,.o (.pt 4 0 Za 0)),(21,.o (.ag [(.i .u32,.i 1116352408),(.i .u32,.i 1899447441),(.i .u32,.i 3049323471),(.i .u32,.i 3921009573),(.i .u32,.i 961987163),(.i .u32,.i 1508970993),(.i .u32,.i 2453635748),(.i .u32,.i 2870763221),(.i .u32,.i 3624381080),(.i .u32,.i 310598401),(.i .u32,.i 607225278),(.i .u32,.i 1426881987),(.i .u32,.i 1925078388),(.i .u32,.i 2162078206),(.i .u32,.i 2614888103),(.i .u32,.i 3248222580),(.i .u32,.i 3835390401),(.i .u32,.i 4022224774),(.i .u32,.i 264347078),(.i .u32,.i 604807628),(.i .u32,.i 770255983),(.i .u32,.i 1249150122),(.i .u32,.i 1555081692),(.i .u32,.i 1996064986),(.i .u32,.i 2554220882),(.i .u32,.i 2821834349),(.i .u32,.i 2952996808),(.i .u32,.i 3210313671),(.i .u32,.i 3336571891),(.i .u32,.i 3584528711),(.i .u32,.i 113926993),(.i .u32,.i 338241895),(.i .u32,.i 666307205),(.i .u32,.i 773529912),(.i .u32,.i 1294757372),(.i .u32,.i 1396182291),(.i .u32,.i 1695183700),(.i .u32,.i 1986661051),(.i .u32,.i 2177026350),(.i .u32,.i 2456956037),(.i .u32,.i 2730485921),(.i .u32,.i 2820302411),(.i .u32,.i 3259730800),(.i .u32,.i 3345764771),(.i .u32,.i 3516065817),(.i .u32,.i 3600352804),(.i .u32,.i 4094571909),(.i .u32,.i 275423344),(.i .u32,.i 430227734),(.i .u32,.i 506948616),(.i .u32,.i 659060556),(.i .u32,.i 883997877),(.i .u32,.i 958139571),(.i .u32,.i 1322822218),(.i .u32,.i 1537002063),(.i .u32,.i 1747873779),(.i .u32,.i 1955562222),(.i .u32,.i 2024104815),(.i .u32,.i 2227730452),(.i .u32,.i 2361852424),(.i .u32,.i 2428436474),(.i .u32,.i 2756734187),(.i .u32,.i 3204031479),(.i .u32,.i 3329325298)])),(22,Zbr)],[.arr 8 (.i .u32) Zeu false,ZhB,ZhC,.arr 4 (.i .u32) Zf false,.arr 4 (.i .u32) Zj false],[.g ZhA,.l 301 .y8,.i .i64,Zev,Zew,Zew],[.nle ZL Zab,.nle Z0 ZO,.nle Z0 Zav,ZZ],(Zg,.w 1 ZL Zb,Zk,Za,Za,Za)⟩,⟨12,[(2,Zc4),(4,ZbL),(6,ZbT),(7,.o (.pt 3 0 Za 0)),(94,Zbr)],[.arr 8 (.i .u32) Zd false,ZhB,.arr 4 (.i .u32) Zf false,.arr 4 (.i .u32) Zj false],[.g ZhA,.l 301 .y8,.i .i64,ZbW,Zew,Zew],[.nle Z8 Zab,.nle Z0 ZO,.nle Z0 Zav,ZZ],(Za,.w 1 Z0 Zb,Zk,Za,Za,Za)⟩]
def J3:Tab:=[(279,qsp),(280,qmK)]
theorem qL1:Ye PP 189 qgN (Ev0 PP qmh J3):=fe qmh J3 (qm qRy (qm qP5 (qu))) (by kernel_rfl) (by refine⟨?_,?_,?_,trivial⟩<;>intro<;>kernel_rfl)
def qiG:Con:={qgN with post:=qgN.post++[],fact:=qrl}
def qrm:TQ:=.next [(279,[.mk .l (.v 1)])] 0 [Ze,Zc,Za,.w 4 (.mk (.i .u32) (.u 1 0 Zm)) (.w 4 (.mk (.i .u32) (.u 1 1 Zm)) (.w 4 (.mk (.i .u32) (.u 1 2 Zm)) (.w 4 (.mk (.i .u32) (.u 1 3 Zm)) (.w 4 (.mk (.i .u32) (.u 1 4 Zm)) (.w 4 (.mk (.i .u32) (.u 1 5 Zm)) (.w 4 (.mk (.i .u32) (.u 1 6 Zm)) (.w 4 (.mk (.i .u32) (.u 1 7 Zm)) (.w 4 (.mk (.i .u32) (.u 1 8 Zm)) (.w 4 (.mk (.i .u32) (.u 1 9 Zm)) (.w 4 (.mk (.i .u32) (.u 1 10 Zm)) (.w 4 (.mk (.i .u32) (.u 1 11 Zm)) (.w 4 (.mk (.i .u32) (.u 1 12 Zm)) (.w 4 (.mk (.i .u32) (.u 1 13 Zm)) (.w 4 (.mk (.i .u32) (.u 1 14 Zm)) (.w 4 (.mk (.i .u32) (.u 1 15 Zm)) (.w 4 (.mk (.i .u32) (.u 1 16 Zm)) (.w 4 (.mk (.i .u32) (.u 1 17 Zm)) (.w 4 (.mk (.i .u32) (.u 1 18 Zm)) (.w 4 (.mk (.i .u32) (.u 1 19 Zm)) (.w 4 (.mk (.i .u32) (.u 1 20 Zm)) (.w 4 (.mk (.i .u32) (.u 1 21 Zm)) (.w 4 (.mk (.i .u32) (.u 1 22 Zm)) (.w 4 (.mk (.i .u32) (.u 1 23 Zm)) (.w 4 (.mk (.i .u32) (.u 1 24 Zm)) (.w 4 (.mk (.i .u32) (.u 1 25 Zm)) (.w 4 (.mk (.i .u32) (.u 1 26 Zm)) (.w 4 (.mk (.i .u32) (.u 1 27 Zm)) (.w 4 (.mk (.i .u32) (.u 1 28 Zm)) (.w 4 (.mk (.i .u32) (.u 1 29 Zm)) (.w 4 (.mk (.i .u32) (.u 1 30 Zm)) (.w 4 (.mk (.i .u32) (.u 1 31 Zm)) (.w 4 (.mk (.i .u32) (.u 1 32 Zm)) (.w 4 (.mk (.i .u32) (.u 1 33 Zm)) (.w 4 (.mk (.i .u32) (.u 1 34 Zm)) (.w 4 (.mk (.i .u32) (.u 1 35 Zm)) (.w 4 (.mk (.i .u32) (.u 1 36 Zm)) (.w 4 (.mk (.i .u32) (.u 1 37 Zm)) (.w 4 (.mk (.i .u32) (.u 1 38 Zm)) (.w 4 (.mk (.i .u32) (.u 1 39 Zm)) (.w 4 (.mk (.i .u32) (.u 1 40 Zm)) (.w 4 (.mk (.i .u32) (.u 1 41 Zm)) (.w 4 (.mk (.i .u32) (.u 1 42 Zm)) (.w 4 (.mk (.i .u32) (.u 1 43 Zm)) (.w 4 (.mk (.i .u32) (.u 1 44 Zm)) (.w 4 (.mk (.i .u32) (.u 1 45 Zm)) (.w 4 (.mk (.i .u32) (.u 1 46 Zm)) (.w 4 (.mk (.i .u32) (.u 1 47 Zm)) (.w 4 (.mk (.i .u32) (.u 1 48 Zm)) (.w 4 (.mk (.i .u32) (.u 1 49 Zm)) (.w 4 (.mk (.i .u32) (.u 1 50 Zm)) (.w 4 (.mk (.i .u32) (.u 1 51 Zm)) (.w 4 (.mk (.i .u32) (.u 1 52 Zm)) (.w 4 (.mk (.i .u32) (.u 1 53 Zm)) (.w 4 (.mk (.i .u32) (.u 1 54 Zm)) (.w 4 (.mk (.i .u32) (.u 1 55 Zm)) (.w 4 (.mk (.i .u32) (.u 1 56 Zm)) (.w 4 (.mk (.i .u32) (.u 1 57 Zm)) (.w 4 (.mk (.i .u32) (.u 1 58 Zm)) (.w 4 (.mk (.i .u32) (.u 1 59 Zm)) (.w 4 (.mk (.i .u32) (.u 1 60 Zm)) (.w 4 (.mk (.i .u32) (.u 1 61 Zm)) (.w 4 (.mk (.i .u32) (.u 1 62 Zm)) (.w 4 (.mk (.i .u32) (.u 1 63 Zm)) .z))))))))))))))))))))))))))))))))))))))))))))))))))))))))))))))),.w 6 Z0 (.w 7 Za Zeu),.w 6 Z0 (.w 7 Z0 Zeu)]
def qyM:TQ:=.fork (.w 10 Zb ZL) (.next [(280,[.mk (.i .u32) (.w 3 (.v 5) (.i 0)),.mk (.i .i64) (.i 6),.mk (.i .i64) (.i 11),.mk (.i .i64) (.i 25)]),(280,[.mk (.i .u32) (.w 3 (.v 4) (.i 0)),.mk (.i .i64) (.i 2),.mk (.i .i64) (.i 13),.mk (.i .i64) (.i 22)])] 0 [Ze,Zc,Zc1,Zd,.w 4 (.mk (.i .u32) (.u 5 2 (.w 0 ZhE (.u 5 2 (.w 0 (.u 3 280 (.w 4 Zgb (.w 4 Zez (.w 4 ZeA (.w 4 Zgc .z))))) (.w 162 (.w 162 (.w 142 Zga Zgd) (.w 142 Zga Zge)) (.w 142 Zgd Zge))))))) (.w 4 Zgb (.w 4 (.mk (.i .u32) Zgd) (.w 4 (.mk (.i .u32) Zge) .z))),.w 4 (.mk (.i .u32) (.u 5 2 (.w 0 (.w 3 Zf Zad) ZhE))) (.w 4 Zf8 (.w 4 (.mk (.i .u32) (.w 3 Zj Zg)) (.w 4 (.mk (.i .u32) (.w 3 Zj ZY)) .z)))]) (.next [] 1 [Ze,Zc,Za,Zeu,Zf,Zj])
def qyN:TQ:=.fork (.w 10 Zb Z0) (.next [] 1 [Ze,Zc,Zc1,.w 21 ZhF (.u 2 0 (.w 4 (.mk (.i .i64) (.w 0 Zb Z0)) (.w 4 (.mk (.i .u32) (.u 5 2 (.w 0 (.w 3 ZhF (.w 0 Zb Z0)) (.w 3 Zj Zb)))) .z))),Zf,Zj]) (.done [] (.u 2 0 (.w 4 (.mk (.i .u32) (.w 3 Zd Za)) (.w 4 (.mk (.i .u32) (.w 3 Zd Zg)) (.w 4 (.mk (.i .u32) (.w 3 Zd ZY)) (.w 4 (.mk (.i .u32) (.w 3 Zd Zad)) (.w 4 (.mk (.i .u32) (.w 3 Zd Z0)) (.w 4 (.mk (.i .u32) (.w 3 Zd (.i 5))) (.w 4 (.mk (.i .u32) (.w 3 Zd (.i 6))) (.w 4 (.mk (.i .u32) (.w 3 Zd (.i 7))) .z))))))))))
theorem qL2:YF PP qmh J3=[qrm,qyM,qyN]:=by kernel_rfl
def qyO (k:Nat):TQ→T
 | .next _ _ l=>l.getD k .z|_=>.z
theorem qL3 (ρ:Nat→D):toL ((qyO 3 qrm).den (wOf PP J3) ρ)=(List.range 64).map fun i=>(K.i .u32).den (cel (wOf PP J3 279 [.list (toL (ρ 1))]) i):=by kernel_rfl
theorem qL4 {ds:List D} {d:D} (hp:qM qgN ds) (h:Ev0 PP qmh J3 ds d):qrl ds d:=by
 refine Jf qL2 (I:=fun k ρ=>match k with
  | 0=>qLW (toL (qa ds 1)) (wds (qa ds 0)) ρ|_=>qLX (toL (qa ds 1)) (wds (qa ds 0)) ρ) (Q:=qrl ds) ?_ ?_ h
 ·intro k st q ρ d hst hq hg hi ht;have h0:=hg.arg 0 (by decide);have h1:=hg.arg 1 (by decide);rcases k with _|_|k
  ·have hq:qyM=q:=by simpa using hq
   subst hq;obtain⟨i1,i2,i3,i4,i5⟩:=hi;rcases ht with⟨hlt,hc,hn⟩|⟨hge,_,hn⟩
   ·have hlt:decide (toI (ρ 2)<64)=true:=hlt;have hlt:=of_decide_eq_true hlt;obtain⟨c1,c2,_⟩:=hc;have f1:qiN _ _:=(c1 qmK rfl).2.2;have f2:qiN _ _:=(c2 qmK rfl).2.2;have g1:toI (wOf PP J3 280 (List.map (T.den (wOf PP J3) ρ) [(.mk (.i .u32) (.w 3 (.v 5) (.i 0))),(.mk (.i .i64) (.i 6)),(.mk (.i .i64) (.i 11)),(.mk (.i .i64) (.i 25))]))=sg (gw (toL (ρ 5)) 0) 6 11 25:=congrArg toI f1;have g2:toI (wOf PP J3 280 (List.map (T.den (wOf PP J3) ρ) [(.mk (.i .u32) (.w 3 (.v 4) (.i 0))),(.mk (.i .i64) (.i 2)),(.mk (.i .i64) (.i 13)),(.mk (.i .i64) (.i 22))]))=sg (gw (toL (ρ 4)) 0) 2 13 22:=congrArg toI f2;have e4:(toI (ρ 2)+1).toNat=toN (ρ 2)+1:=by unfold toN; omega
    have hv:=ql1 (fW (wS (toL (qa ds 1))) 64) (qyj (qa ds 0)) (toN (ρ 2));refine hn ⟨?_,?_,i3,?_,?_⟩
    ·show 0≤toI (ρ 2)+1;omega
    ·show toI (ρ 2)+1≤64;omega
    ·show[wd (qD (qD (qD (qD (qD (gw (toL (ρ 5)) 3) (toI (wOf PP J3 280 (List.map (T.den (wOf PP J3) ρ) [(.mk (.i .u32) (.w 3 (.v 5) (.i 0))),(.mk (.i .i64) (.i 6)),(.mk (.i .i64) (.i 11)),(.mk (.i .i64) (.i 25))])))) (M44.qF (YZ (gw (toL (ρ 5)) 0) (gw (toL (ρ 5)) 1)) (YZ (M44.qF 4294967295 (gw (toL (ρ 5)) 0)) (gw (toL (ρ 5)) 2)))) (gw kL (toN (ρ 2)))) (gw (toL (ρ 3)) (toN (ρ 2)))) (qD (toI (wOf PP J3 280 (List.map (T.den (wOf PP J3) ρ) [(.mk (.i .u32) (.w 3 (.v 4) (.i 0))),(.mk (.i .i64) (.i 2)),(.mk (.i .i64) (.i 13)),(.mk (.i .i64) (.i 22))]))) (M44.qF (M44.qF (YZ (gw (toL (ρ 4)) 0) (gw (toL (ρ 4)) 1)) (YZ (gw (toL (ρ 4)) 0) (gw (toL (ρ 4)) 2))) (YZ (gw (toL (ρ 4)) 1) (gw (toL (ρ 4)) 2))))),wd (gw (toL (ρ 4)) 0),wd (gw (toL (ρ 4)) 1),wd (gw (toL (ρ 4)) 2)]=(qaE (fW (wS (toL (qa ds 1))) 64) (wds (qa ds 0)) (toI (ρ 2)+1).toNat).take 4;rw[g1,g2,e4,i3,i4,i5];exact qLY hv
    ·show[wd (qD (gw (toL (ρ 4)) 3) (qD (qD (qD (qD (gw (toL (ρ 5)) 3) (toI (wOf PP J3 280 (List.map (T.den (wOf PP J3) ρ) [(.mk (.i .u32) (.w 3 (.v 5) (.i 0))),(.mk (.i .i64) (.i 6)),(.mk (.i .i64) (.i 11)),(.mk (.i .i64) (.i 25))])))) (M44.qF (YZ (gw (toL (ρ 5)) 0) (gw (toL (ρ 5)) 1)) (YZ (M44.qF 4294967295 (gw (toL (ρ 5)) 0)) (gw (toL (ρ 5)) 2)))) (gw kL (toN (ρ 2)))) (gw (toL (ρ 3)) (toN (ρ 2))))),wd (gw (toL (ρ 5)) 0),wd (gw (toL (ρ 5)) 1),wd (gw (toL (ρ 5)) 2)]=(qaE (fW (wS (toL (qa ds 1))) 64) (wds (qa ds 0)) (toI (ρ 2)+1).toNat).drop 4;rw[g1,e4,i3,i4,i5];exact qLZ hv
   ·have hge:decide (toI (ρ 2)<64)=false:=hge;have hge:=of_decide_eq_false hge;have e:toN (ρ 2)=64:=by unfold toN; omega
    rw[e]at i4 i5;refine hn ⟨?_,?_,?_,i4,i5⟩
    ·show(0:Int)≤0;decide
    ·show(0:Int)≤4;decide
    ·show wds (ρ 0)=wds (qa ds 0);rw[h0]
  ·have hq:qyN=q:=by simpa using hq
   subst hq;obtain⟨i1,i2,i3,i4,i5⟩:=hi;rcases ht with⟨hlt,_,hn⟩|⟨hge,_,rfl⟩
   ·have hlt:decide (toI (ρ 2)<4)=true:=hlt;have hlt:=of_decide_eq_true hlt;have e1:(toI (ρ 2)+1).toNat=toN (ρ 2)+1:=by unfold toN; omega
    have e4:(toI (ρ 2)+4).toNat=toN (ρ 2)+4:=by unfold toN; omega
    refine hn ⟨?_,?_,?_,i4,i5⟩
    ·show 0≤toI (ρ 2)+1;omega
    ·show toI (ρ 2)+1≤4;omega
    ·show((toL (ρ 3)).set (toN (ρ 2)) (wd (qD (gw (toL (ρ 3)) (toN (ρ 2))) (gw (toL (ρ 4)) (toN (ρ 2)))))).set (toI (ρ 2)+4).toNat (wd (qD (gw ((toL (ρ 3)).set (toN (ρ 2)) (wd (qD (gw (toL (ρ 3)) (toN (ρ 2))) (gw (toL (ρ 4)) (toN (ρ 2)))))) (toI (ρ 2)+4).toNat) (gw (toL (ρ 5)) (toN (ρ 2)))))=qfu _ _ _ (toI (ρ 2)+1).toNat;rw[e1,e4,i3,i4,i5];rfl
   ·have hge:decide (toI (ρ 2)<4)=false:=hge;have hge:=of_decide_eq_false hge;have e:toN (ρ 2)=4:=by unfold toN; omega
    have hs:=qyj (qa ds 0);rw[e,qJE (ql1 _ hs 64) hs]at i3;show D.agg [wd (gw (toL (ρ 3)) 0),wd (gw (toL (ρ 3)) 1),wd (gw (toL (ρ 3)) 2),wd (gw (toL (ρ 3)) 3),wd (gw (toL (ρ 3)) 4),wd (gw (toL (ρ 3)) 5),wd (gw (toL (ρ 3)) 6),wd (gw (toL (ρ 3)) 7)]=_;rw[i3,qJH (qyi (ql1 _ hs 64) hs)];rfl
  ·simp at hq
 ·intro d ht;obtain⟨⟨c1,_⟩,hn⟩:=ht;have f1:qm5 _ _:=(c1 qsp rfl).2.2;have f1:wOf PP J3 279 [.list (toL (qa ds 1))]=.agg (fW (wS (toL (qa ds 1))) 64):=f1;refine hn ⟨?_,?_,?_,rfl,rfl⟩
  ·show(0:Int)≤0;decide
  ·show(0:Int)≤64;decide
  ·show toL ((qyO 3 qrm).den (wOf PP J3) (qa ds))=fW (wS (toL (qa ds 1))) 64;rw[qL3,f1];exact qL0 (qgK (wS (toL (qa ds 1))) 64) (qiy (wS (toL (qa ds 1))) 64)
theorem qL5:qp PP 189 qiG:=qL1.more fun ds d hp _ h=>⟨fun f hf=>(by cases hf),qL4 hp h⟩
def txD (a:D):D:=.str ⟨⟨(((List.range 16).map fun i=>(K.i .u8).den (cel a i)).drop 0 |>.take 16).map unB⟩⟩
def qcT (a b:D):List D:=inP 31 [txD a,txD b] 2
def qzo (ds:List D) (d:D):Prop:=(qcT (qa ds 0) (qa ds 1)).length=35→d=.agg (cpN (qbO (qcT (qa ds 0) (qa ds 1))) 16)
def qiQ:Con:={pts:=[Zba,Zba],pre:=[],rts:=[Zba],post:=[]}
def qmR:RFn:=mF 56 qiQ []
def qew:Tab:=[(50,qsa)]
theorem qQg:Ye PP 56 qiQ (Ev0 PP qmR qew):=fe qmR qew (qm qQr (qu)) (by kernel_rfl) ⟨fun ρ=>by kernel_rfl,trivial⟩
def qzp:Con:={qiQ with post:=qiQ.post++[],fact:=qzo}
def qr8:TQ:=.done [(50,[.mk (.i .i64) (.i 31),ZiT])] (.u 2 0 (.w 4 (.mk (.i .u8) (.u 1 0 Zap)) (.w 4 (.mk (.i .u8) (.u 1 1 Zap)) (.w 4 (.mk (.i .u8) (.u 1 2 Zap)) (.w 4 (.mk (.i .u8) (.u 1 3 Zap)) (.w 4 (.mk (.i .u8) (.u 1 4 Zap)) (.w 4 (.mk (.i .u8) (.u 1 5 Zap)) (.w 4 (.mk (.i .u8) (.u 1 6 Zap)) (.w 4 (.mk (.i .u8) (.u 1 7 Zap)) (.w 4 (.mk (.i .u8) (.u 1 8 Zap)) (.w 4 (.mk (.i .u8) (.u 1 9 Zap)) (.w 4 (.mk (.i .u8) (.u 1 10 Zap)) (.w 4 (.mk (.i .u8) (.u 1 11 Zap)) (.w 4 (.mk (.i .u8) (.u 1 12 Zap)) (.w 4 (.mk (.i .u8) (.u 1 13 Zap)) (.w 4 (.mk (.i .u8) (.u 1 14 Zap)) (.w 4 (.mk (.i .u8) (.u 1 15 Zap)) .z)))))))))))))))))
theorem qQh:YF PP qmR qew=[qr8]:=by kernel_rfl
theorem qQi (ρ:Nat→D):(qmU qr8).den (wOf PP qew) ρ=.agg ((List.range 16).map fun i=>(K.i .u8).den (cel (wOf PP qew 50 [.int .i64 31,.list [txD (ρ 0),txD (ρ 1)]]) i)):=by kernel_rfl
theorem qQj {ds:List D} {d:D} (hp:qM qiQ ds) (h:Ev0 PP qmR qew ds d):qzo ds d:=by
 intro hl;refine Jf qQh (I:=fun k ρ=>False) (Q:=fun d=>d=.agg (cpN (qbO (qcT (qa ds 0) (qa ds 1))) 16)) (fun k st q ρ d hst hq hg hi ht=>hi.elim) ?_ h;intro d ht;obtain⟨⟨c1,_⟩,rfl⟩:=ht;have f1:OfQ _ _:=(c1 qsa rfl).2.2;have f1:(qcT (qa ds 0) (qa ds 1)).length=35→wOf PP qew 50 [.int .i64 31,.list [txD (qa ds 0),txD (qa ds 1)]]=.agg (cpN (qbO (qcT (qa ds 0) (qa ds 1))) 16):=f1;show(qmU qr8).den (wOf PP qew) (qa ds)=_;rw[qQi,f1 hl,qzq (qm8 _ 16) (qm9 _ 16)]
theorem qQk:qp PP 56 qzp:=qQg.more fun ds d hp _ h=>⟨fun f hf=>(by cases hf),qQj hp h⟩
end Go.Aev.R29
end
noncomputable section
namespace Go.Aev.R29
open Go Go.Aev Go.Aev.R
def qsE:Con:={pts:=[Zv,Zcg],pre:=[.le (.u 15 0 (.u 2 0 (.w 4 Zgs (.w 4 (.mk .l ZcH) (.w 4 (.mk .l ZcI) (.w 4 (.mk .l ZcJ) (.w 4 ZgL (.w 4 ZgM (.w 4 (.mk (.i .i64) ZbD) (.w 4 Ziy (.w 4 Ziz (.w 4 (.mk .l (.u 1 12 Zc)) (.w 4 (.mk .l (.u 1 13 Zc)) (.w 4 (.mk .l (.u 1 14 Zc)) .z)))))))))))))) ZbJ],rts:=[.b],post:=[ZjC,.imp Zb Zfg]}
def qSS:RFn:=mF 33 qsE []
def qST:Tab:=[(39,qrt),(79,qrk),(80,qr2),(42,qsx),(45,qsq),(81,qra),(44,qiD)]
theorem qSU:qp PP 33 qsE:=(fe qSS qST (qm qMA (qm qLL (qm qPV (qm qSg (qm qRB (qm qKq (qm qK6 (qu)))))))) (by kernel_rfl) ⟨fun ρ=>by kernel_rfl,trivial⟩).ok
def qnl:Con:={pts:=[Zaw,Zb1],pre:=[],rts:=[.b],post:=[.imp Zb Zfh,ZjC,.imp Zb Zfg,.imp Zb ZaK,.imp Zb ZaL]}
def qSV:RFn:=mF 6 qnl []
def qSW:Tab:=[(31,qrB),(32,qrx),(33,qsE)]
theorem qSX:qp PP 6 qnl:=(fe qSV qSW (qm qM5 (qm qMT (qm qSU (qu)))) (by kernel_rfl) ⟨fun ρ=>by kernel_rfl,trivial⟩).ok
theorem qqY {s:List UInt8} (h:s.length=16):M44.qH s=32::s:=by
 unfold M44.qH;rw[h];have:M44.enc (16:Nat)=[32]:=by
  unfold M44.enc;have z:M44.zz ((16:Nat):Int)=32:=by decide
  rw[z];unfold M44.vb;rfl
 rw[this];rfl
theorem qqZ (a:D):(toS (txD a)).length=16:=by
 unfold txD;rfl
theorem qx4 (a b:D):qcT a b=.int .u8 31::(qh (32::toS (txD a))++qh (32::toS (txD b))):=by
 unfold qcT inP qrN;show _::((qh (M44.qH (toS (txD a))))++((qh (M44.qH (toS (txD b))))++[]))=_;rw[qqY (qqZ a),qqY (qqZ b),qT7];rfl
theorem qJd (a b:D):(qcT a b).length=35:=by
 rw[qx4];unfold qh;simp[qqZ]
end Go.Aev.R29
end
section
namespace Go.Aev.M44
open Go Go.Aev Go.Aev.R29
noncomputable def cS (d:D):qw:=kA (fun g=>match Nat.beq g 103 with|true=>some fun _=>.d d|false=>none)
theorem q7 (d:D):COK (cS d).cfg:=YC _
noncomputable def qEU:List qT:=(JJ (sTo (cS .nilp) {qg [] [] [] 0 false true with wr:=true} qo 300 (start (cS .nilp) 105 [.d (stm (fun _=>0) (fun _=>0) 0)] []))).fr.todo
def BX (a b:Nat→Int) (n:Int):qd:=.live (.box ((ww8 a++(qdg b++[D.int .u64 n])).map V.d) false)
def OX (c:Nat→Int):qd:=.live (.box ((List.range 32).map fun i=>V.d (.int .u8 (c i))) false)
noncomputable def H1g (a b:Nat→Int) (n:Int) (es:List D) (len:Nat) (ex:Bool):AS:=hd 105 qEU 58 [(1,.pt 0 0 0 0),(2,.pt 1 0 0 0),(3,U64 (IntKind.wrap IntKind.u64 ((8:Int)*n))),(4,.sl 2 1 0 len len ex)] [BX a b n,OX (fun _=>0),.live (.dat 1 es false)]
noncomputable def H1 (a b:Nat→Int) (n:Int) (o:List UInt8) (ex:Bool):AS:=H1g a b n (qh o) o.length ex
noncomputable def qEV:List qT:=(JJ (sTo (cS .nilp) {qg [(19,false)] [] [] 0 false true with wr:=true} qo 300 (H1 (fun _=>0) (fun _=>0) 0 [] false))).fr.todo
noncomputable def H2g (a b:Nat→Int) (n:Int) (es:List D) (len:Nat) (ex:Bool) (i:Int):AS:=hd 105 qEV 58 [(1,.pt 0 0 0 0),(2,.pt 1 0 0 0),(3,U64 (IntKind.wrap IntKind.u64 ((8:Int)*n))),(4,.sl 2 1 0 len len ex),(23,I i)] [BX a b n,OX (fun _=>0),.live (.dat 1 es false)]
noncomputable def H2 (a b:Nat→Int) (n:Int) (o:List UInt8) (ex:Bool) (i:Int):AS:=H2g a b n (qh o) o.length ex i
noncomputable def qEW:List qT:=(JJ (sTo (cS (stm (fun _=>0) (fun _=>0) 0)) (qg [(24,false)] [] [] 0 false true) qo 300 (H2 (fun _=>0) (fun _=>0) 0 [] true 8))).fr.todo
noncomputable def H3 (c e:Nat→Int) (q:Int) (i:Nat):AS:=hd 105 qEW 58 [(1,.pt 0 0 0 0),(2,.pt 1 0 0 0),(40,I i),(6,.pt 2 0 0 0)] [BX c e q,OX (fun _=>0),.live (.box ((Jb (ww8 c) i).map V.d) false)]
def qe2 (o:List UInt8):Prop:=0<1∧1≠0∧1=1∧1=1∧0+o.length≤List.length (qh o)∧¬o.length+1≤o.length∧2*(o.length+1)*1≤281474976710656∧o.length+1≤4611686018427387904
theorem qEX {a b:Nat→Int} {n:Int} {d:D} {Q:V→Aev.Rows→Prop} (h:qb (cS d) 0 (H1 a b n [128] true) Q):qb (cS d) 0 (start (cS d) 105 [.d (stm a b n)] []) Q :=
 qb.turn (q7 d) (qg [] [] [] 0 false true true) qo 300 [0,1,2] [1,2,3,4] (ps:=[]) (by kernel_rfl) trivial h
def byB (z:Int):D:=.int .u8 z
def qd0 (o:List UInt8) (z:Int):List D:=List.take o.length (List.drop 0 (qh o))++[byB z]
theorem qEY {a b c e:Nat→Int} {n q:Int} {o:List UInt8} {Q:V→Aev.Rows→Prop} (hp:qf [qi (IntKind.wrap IntKind.i64 n+(↑o.length:Int)),IntKind.i64=IntKind.i64,(64:Int)≠(0:Int),(Int.tmod (IntKind.wrap IntKind.i64 n+(↑o.length:Int)) (64:Int) != (56:Int))=true,1=1∧1=1∧1≤1,qe2 o]) (h:qb (cS (stm c e q)) 0 (H1g a b n (qd0 o 0) (o.length+1) false) Q):qb (cS (stm c e q)) 0 (H1 a b n o true) Q :=
 qb.turn (q7 (stm c e q)) (qg [(19,true)] [] [] 1 false true) qo 300 [0,1,4] [1,2,3,4] (by kernel_rfl) hp h
theorem qEZ {a b c e:Nat→Int} {n q:Int} {o:List UInt8} {Q:V→Aev.Rows→Prop} (hp:qf [qi (IntKind.wrap IntKind.i64 n+(↑o.length:Int)),IntKind.i64=IntKind.i64,(64:Int)≠(0:Int),(Int.tmod (IntKind.wrap IntKind.i64 n+(↑o.length:Int)) (64:Int) != (56:Int))=false]) (h:qb (cS (stm c e q)) 0 (H2 a b n o true 0) Q):qb (cS (stm c e q)) 0 (H1 a b n o true) Q :=
 qb.turn (q7 (stm c e q)) (qg [(19,false)] [] [] 0 false true) qo 300 [0,1,2] [1,2,3,4,23] (by kernel_rfl) hp h
theorem qE0 {a b c e:Nat→Int} {n q:Int} {o:List UInt8} {Q:V→Aev.Rows→Prop} {i:Int} (hp:qf [decide (i<(8:Int))=true,qi ((8:Int)*i),qi ((56:Int) - (8:Int)*i),(0:Int)≤(56:Int) - (8:Int)*i,1=1∧1=1∧1≤1,qe2 o,qi (i+(1:Int))]) (h:qb (cS (stm c e q)) 0 (H2g a b n (qd0 o (IntKind.wrap IntKind.u8 (Int.fdiv (IntKind.wrap IntKind.u64 ((8:Int)*n)) ((2:Int) ^ min (Int.toNat ((56:Int) - (8:Int)*i)) (64))))) (o.length+1) false (i+1)) Q):qb (cS (stm c e q)) 0 (H2 a b n o true i) Q :=
 qb.turn (q7 (stm c e q)) (qg [(24,true)] [] [] 1 false true) qo 300 [0,1,4] [1,2,4,3,23] (by kernel_rfl) hp h
theorem qE1 {a b c e:Nat→Int} {n q:Int} {o:List UInt8} {Q:V→Aev.Rows→Prop} (hp:qf [qi (IntKind.wrap IntKind.i64 n+(↑o.length:Int)),IntKind.i64=IntKind.i64,(64:Int)≠(0:Int),(Int.tmod (IntKind.wrap IntKind.i64 n+(↑o.length:Int)) (64:Int) != (56:Int))=true,1=1∧1=1∧1≤1,qe2 o]) (h:qb (cS (stm c e q)) 0 (H1g a b n (qd0 o 0) (o.length+1) false) Q):qb (cS (stm c e q)) 0 (H1 a b n o false) Q :=
 qb.turn (q7 (stm c e q)) (qg [(19,true)] [] [] 1 false true) qo 300 [0,1,4] [1,2,3,4] (by kernel_rfl) hp h
theorem qE2 {a b c e:Nat→Int} {n q:Int} {o:List UInt8} {Q:V→Aev.Rows→Prop} (hp:qf [qi (IntKind.wrap IntKind.i64 n+(↑o.length:Int)),IntKind.i64=IntKind.i64,(64:Int)≠(0:Int),(Int.tmod (IntKind.wrap IntKind.i64 n+(↑o.length:Int)) (64:Int) != (56:Int))=false]) (h:qb (cS (stm c e q)) 0 (H2 a b n o false 0) Q):qb (cS (stm c e q)) 0 (H1 a b n o false) Q :=
 qb.turn (q7 (stm c e q)) (qg [(19,false)] [] [] 0 false true) qo 300 [0,1,2] [1,2,3,4,23] (by kernel_rfl) hp h
theorem qE3 {a b c e:Nat→Int} {n q:Int} {o:List UInt8} {Q:V→Aev.Rows→Prop} {i:Int} (hp:qf [decide (i<(8:Int))=true,qi ((8:Int)*i),qi ((56:Int) - (8:Int)*i),(0:Int)≤(56:Int) - (8:Int)*i,1=1∧1=1∧1≤1,qe2 o,qi (i+(1:Int))]) (h:qb (cS (stm c e q)) 0 (H2g a b n (qd0 o (IntKind.wrap IntKind.u8 (Int.fdiv (IntKind.wrap IntKind.u64 ((8:Int)*n)) ((2:Int) ^ min (Int.toNat ((56:Int) - (8:Int)*i)) (64))))) (o.length+1) false (i+1)) Q):qb (cS (stm c e q)) 0 (H2 a b n o false i) Q :=
 qb.turn (q7 (stm c e q)) (qg [(24,true)] [] [] 1 false true) qo 300 [0,1,4] [1,2,4,3,23] (by kernel_rfl) hp h
theorem qE4 {a b c e:Nat→Int} {n q:Int} {o:List UInt8} {Q:V→Aev.Rows→Prop} (hp:qf [1=1,1=1,0+o.length≤List.length (qh o),List.take o.length (List.drop (0) (qh o))=qh (List.map unB (List.take o.length (List.drop (0) (qh o)))),RCs PP 103 [.d (stm a b n),.d (.str ⟨⟨List.map unB (List.take o.length (List.drop (0) (qh o)))⟩⟩)] [] (.d (stm c e q))]) (h:qb (cS (stm c e q)) 0 (H3 c e q 0) Q):qb (cS (stm c e q)) 0 (H2 a b n o false 8) Q :=
 qb.turn (q7 (stm c e q)) (qg [] [] [] 0 false true) qo 300 [0,1,3] [1,2,40,6] (by kernel_rfl) hp h
theorem qE5 {c e:Nat→Int} {q:Int} {Q:V→Aev.Rows→Prop} {d:D} (h:qb (cS d) 0 (H3 c e q 1) Q):qb (cS d) 0 (H3 c e q 0) Q :=
 qb.turn (q7 d) (qg [] [] [] 0 false true) qo 300 [0,1,2] [1,2,40,6] (ps:=[IntKind.i64=IntKind.i64,(4:Int)≠(0:Int),IntKind.i64=IntKind.i64,(4:Int)≠(0:Int),qi (0:Int),qi (24:Int),(0:Int)≤(24:Int),qi (1:Int)]) (by kernel_rfl) ⟨rfl,by decide,rfl,by decide,⟨by decide,by decide⟩,⟨by decide,by decide⟩,by decide,⟨by decide,by decide⟩,trivial⟩ h
theorem qE6 {c e:Nat→Int} {q:Int} {Q:V→Aev.Rows→Prop} {d:D} (h:qb (cS d) 0 (H3 c e q 2) Q):qb (cS d) 0 (H3 c e q 1) Q :=
 qb.turn (q7 d) (qg [] [] [] 0 false true) qo 300 [0,1,2] [1,2,40,6] (ps:=[IntKind.i64=IntKind.i64,(4:Int)≠(0:Int),IntKind.i64=IntKind.i64,(4:Int)≠(0:Int),qi (8:Int),qi (16:Int),(0:Int)≤(16:Int),qi (2:Int)]) (by kernel_rfl) ⟨rfl,by decide,rfl,by decide,⟨by decide,by decide⟩,⟨by decide,by decide⟩,by decide,⟨by decide,by decide⟩,trivial⟩ h
theorem qE7 {c e:Nat→Int} {q:Int} {Q:V→Aev.Rows→Prop} {d:D} (h:qb (cS d) 0 (H3 c e q 3) Q):qb (cS d) 0 (H3 c e q 2) Q :=
 qb.turn (q7 d) (qg [] [] [] 0 false true) qo 300 [0,1,2] [1,2,40,6] (ps:=[IntKind.i64=IntKind.i64,(4:Int)≠(0:Int),IntKind.i64=IntKind.i64,(4:Int)≠(0:Int),qi (16:Int),qi (8:Int),(0:Int)≤(8:Int),qi (3:Int)]) (by kernel_rfl) ⟨rfl,by decide,rfl,by decide,⟨by decide,by decide⟩,⟨by decide,by decide⟩,by decide,⟨by decide,by decide⟩,trivial⟩ h
theorem qE8 {c e:Nat→Int} {q:Int} {Q:V→Aev.Rows→Prop} {d:D} (h:qb (cS d) 0 (H3 c e q 4) Q):qb (cS d) 0 (H3 c e q 3) Q :=
 qb.turn (q7 d) (qg [] [] [] 0 false true) qo 300 [0,1,2] [1,2,40,6] (ps:=[IntKind.i64=IntKind.i64,(4:Int)≠(0:Int),IntKind.i64=IntKind.i64,(4:Int)≠(0:Int),qi (24:Int),qi (0:Int),(0:Int)≤(0:Int),qi (4:Int)]) (by kernel_rfl) ⟨rfl,by decide,rfl,by decide,⟨by decide,by decide⟩,⟨by decide,by decide⟩,by decide,⟨by decide,by decide⟩,trivial⟩ h
theorem qE9 {c e:Nat→Int} {q:Int} {Q:V→Aev.Rows→Prop} {d:D} (h:qb (cS d) 0 (H3 c e q 5) Q):qb (cS d) 0 (H3 c e q 4) Q :=
 qb.turn (q7 d) (qg [] [] [] 0 false true) qo 300 [0,1,2] [1,2,40,6] (ps:=[IntKind.i64=IntKind.i64,(4:Int)≠(0:Int),IntKind.i64=IntKind.i64,(4:Int)≠(0:Int),qi (0:Int),qi (24:Int),(0:Int)≤(24:Int),qi (5:Int)]) (by kernel_rfl) ⟨rfl,by decide,rfl,by decide,⟨by decide,by decide⟩,⟨by decide,by decide⟩,by decide,⟨by decide,by decide⟩,trivial⟩ h
theorem qFa {c e:Nat→Int} {q:Int} {Q:V→Aev.Rows→Prop} {d:D} (h:qb (cS d) 0 (H3 c e q 6) Q):qb (cS d) 0 (H3 c e q 5) Q :=
 qb.turn (q7 d) (qg [] [] [] 0 false true) qo 300 [0,1,2] [1,2,40,6] (ps:=[IntKind.i64=IntKind.i64,(4:Int)≠(0:Int),IntKind.i64=IntKind.i64,(4:Int)≠(0:Int),qi (8:Int),qi (16:Int),(0:Int)≤(16:Int),qi (6:Int)]) (by kernel_rfl) ⟨rfl,by decide,rfl,by decide,⟨by decide,by decide⟩,⟨by decide,by decide⟩,by decide,⟨by decide,by decide⟩,trivial⟩ h
theorem qFb {c e:Nat→Int} {q:Int} {Q:V→Aev.Rows→Prop} {d:D} (h:qb (cS d) 0 (H3 c e q 7) Q):qb (cS d) 0 (H3 c e q 6) Q :=
 qb.turn (q7 d) (qg [] [] [] 0 false true) qo 300 [0,1,2] [1,2,40,6] (ps:=[IntKind.i64=IntKind.i64,(4:Int)≠(0:Int),IntKind.i64=IntKind.i64,(4:Int)≠(0:Int),qi (16:Int),qi (8:Int),(0:Int)≤(8:Int),qi (7:Int)]) (by kernel_rfl) ⟨rfl,by decide,rfl,by decide,⟨by decide,by decide⟩,⟨by decide,by decide⟩,by decide,⟨by decide,by decide⟩,trivial⟩ h
theorem qFc {c e:Nat→Int} {q:Int} {Q:V→Aev.Rows→Prop} {d:D} (h:qb (cS d) 0 (H3 c e q 8) Q):qb (cS d) 0 (H3 c e q 7) Q :=
 qb.turn (q7 d) (qg [] [] [] 0 false true) qo 300 [0,1,2] [1,2,40,6] (ps:=[IntKind.i64=IntKind.i64,(4:Int)≠(0:Int),IntKind.i64=IntKind.i64,(4:Int)≠(0:Int),qi (24:Int),qi (0:Int),(0:Int)≤(0:Int),qi (8:Int)]) (by kernel_rfl) ⟨rfl,by decide,rfl,by decide,⟨by decide,by decide⟩,⟨by decide,by decide⟩,by decide,⟨by decide,by decide⟩,trivial⟩ h
theorem qFd {c e:Nat→Int} {q:Int} {Q:V→Aev.Rows→Prop} {d:D} (h:qb (cS d) 0 (H3 c e q 9) Q):qb (cS d) 0 (H3 c e q 8) Q :=
 qb.turn (q7 d) (qg [] [] [] 0 false true) qo 300 [0,1,2] [1,2,40,6] (ps:=[IntKind.i64=IntKind.i64,(4:Int)≠(0:Int),IntKind.i64=IntKind.i64,(4:Int)≠(0:Int),qi (0:Int),qi (24:Int),(0:Int)≤(24:Int),qi (9:Int)]) (by kernel_rfl) ⟨rfl,by decide,rfl,by decide,⟨by decide,by decide⟩,⟨by decide,by decide⟩,by decide,⟨by decide,by decide⟩,trivial⟩ h
theorem qFe {c e:Nat→Int} {q:Int} {Q:V→Aev.Rows→Prop} {d:D} (h:qb (cS d) 0 (H3 c e q 10) Q):qb (cS d) 0 (H3 c e q 9) Q :=
 qb.turn (q7 d) (qg [] [] [] 0 false true) qo 300 [0,1,2] [1,2,40,6] (ps:=[IntKind.i64=IntKind.i64,(4:Int)≠(0:Int),IntKind.i64=IntKind.i64,(4:Int)≠(0:Int),qi (8:Int),qi (16:Int),(0:Int)≤(16:Int),qi (10:Int)]) (by kernel_rfl) ⟨rfl,by decide,rfl,by decide,⟨by decide,by decide⟩,⟨by decide,by decide⟩,by decide,⟨by decide,by decide⟩,trivial⟩ h
theorem qFf {c e:Nat→Int} {q:Int} {Q:V→Aev.Rows→Prop} {d:D} (h:qb (cS d) 0 (H3 c e q 11) Q):qb (cS d) 0 (H3 c e q 10) Q :=
 qb.turn (q7 d) (qg [] [] [] 0 false true) qo 300 [0,1,2] [1,2,40,6] (ps:=[IntKind.i64=IntKind.i64,(4:Int)≠(0:Int),IntKind.i64=IntKind.i64,(4:Int)≠(0:Int),qi (16:Int),qi (8:Int),(0:Int)≤(8:Int),qi (11:Int)]) (by kernel_rfl) ⟨rfl,by decide,rfl,by decide,⟨by decide,by decide⟩,⟨by decide,by decide⟩,by decide,⟨by decide,by decide⟩,trivial⟩ h
theorem qFg {c e:Nat→Int} {q:Int} {Q:V→Aev.Rows→Prop} {d:D} (h:qb (cS d) 0 (H3 c e q 12) Q):qb (cS d) 0 (H3 c e q 11) Q :=
 qb.turn (q7 d) (qg [] [] [] 0 false true) qo 300 [0,1,2] [1,2,40,6] (ps:=[IntKind.i64=IntKind.i64,(4:Int)≠(0:Int),IntKind.i64=IntKind.i64,(4:Int)≠(0:Int),qi (24:Int),qi (0:Int),(0:Int)≤(0:Int),qi (12:Int)]) (by kernel_rfl) ⟨rfl,by decide,rfl,by decide,⟨by decide,by decide⟩,⟨by decide,by decide⟩,by decide,⟨by decide,by decide⟩,trivial⟩ h
theorem qFh {c e:Nat→Int} {q:Int} {Q:V→Aev.Rows→Prop} {d:D} (h:qb (cS d) 0 (H3 c e q 13) Q):qb (cS d) 0 (H3 c e q 12) Q :=
 qb.turn (q7 d) (qg [] [] [] 0 false true) qo 300 [0,1,2] [1,2,40,6] (ps:=[IntKind.i64=IntKind.i64,(4:Int)≠(0:Int),IntKind.i64=IntKind.i64,(4:Int)≠(0:Int),qi (0:Int),qi (24:Int),(0:Int)≤(24:Int),qi (13:Int)]) (by kernel_rfl) ⟨rfl,by decide,rfl,by decide,⟨by decide,by decide⟩,⟨by decide,by decide⟩,by decide,⟨by decide,by decide⟩,trivial⟩ h
theorem qFi {c e:Nat→Int} {q:Int} {Q:V→Aev.Rows→Prop} {d:D} (h:qb (cS d) 0 (H3 c e q 14) Q):qb (cS d) 0 (H3 c e q 13) Q :=
 qb.turn (q7 d) (qg [] [] [] 0 false true) qo 300 [0,1,2] [1,2,40,6] (ps:=[IntKind.i64=IntKind.i64,(4:Int)≠(0:Int),IntKind.i64=IntKind.i64,(4:Int)≠(0:Int),qi (8:Int),qi (16:Int),(0:Int)≤(16:Int),qi (14:Int)]) (by kernel_rfl) ⟨rfl,by decide,rfl,by decide,⟨by decide,by decide⟩,⟨by decide,by decide⟩,by decide,⟨by decide,by decide⟩,trivial⟩ h
theorem qFj {c e:Nat→Int} {q:Int} {Q:V→Aev.Rows→Prop} {d:D} (h:qb (cS d) 0 (H3 c e q 15) Q):qb (cS d) 0 (H3 c e q 14) Q :=
 qb.turn (q7 d) (qg [] [] [] 0 false true) qo 300 [0,1,2] [1,2,40,6] (ps:=[IntKind.i64=IntKind.i64,(4:Int)≠(0:Int),IntKind.i64=IntKind.i64,(4:Int)≠(0:Int),qi (16:Int),qi (8:Int),(0:Int)≤(8:Int),qi (15:Int)]) (by kernel_rfl) ⟨rfl,by decide,rfl,by decide,⟨by decide,by decide⟩,⟨by decide,by decide⟩,by decide,⟨by decide,by decide⟩,trivial⟩ h
theorem qFk {c e:Nat→Int} {q:Int} {Q:V→Aev.Rows→Prop} {d:D} (h:qb (cS d) 0 (H3 c e q 16) Q):qb (cS d) 0 (H3 c e q 15) Q :=
 qb.turn (q7 d) (qg [] [] [] 0 false true) qo 300 [0,1,2] [1,2,40,6] (ps:=[IntKind.i64=IntKind.i64,(4:Int)≠(0:Int),IntKind.i64=IntKind.i64,(4:Int)≠(0:Int),qi (24:Int),qi (0:Int),(0:Int)≤(0:Int),qi (16:Int)]) (by kernel_rfl) ⟨rfl,by decide,rfl,by decide,⟨by decide,by decide⟩,⟨by decide,by decide⟩,by decide,⟨by decide,by decide⟩,trivial⟩ h
theorem qFl {c e:Nat→Int} {q:Int} {Q:V→Aev.Rows→Prop} {d:D} (h:qb (cS d) 0 (H3 c e q 17) Q):qb (cS d) 0 (H3 c e q 16) Q :=
 qb.turn (q7 d) (qg [] [] [] 0 false true) qo 300 [0,1,2] [1,2,40,6] (ps:=[IntKind.i64=IntKind.i64,(4:Int)≠(0:Int),IntKind.i64=IntKind.i64,(4:Int)≠(0:Int),qi (0:Int),qi (24:Int),(0:Int)≤(24:Int),qi (17:Int)]) (by kernel_rfl) ⟨rfl,by decide,rfl,by decide,⟨by decide,by decide⟩,⟨by decide,by decide⟩,by decide,⟨by decide,by decide⟩,trivial⟩ h
theorem qFm {c e:Nat→Int} {q:Int} {Q:V→Aev.Rows→Prop} {d:D} (h:qb (cS d) 0 (H3 c e q 18) Q):qb (cS d) 0 (H3 c e q 17) Q :=
 qb.turn (q7 d) (qg [] [] [] 0 false true) qo 300 [0,1,2] [1,2,40,6] (ps:=[IntKind.i64=IntKind.i64,(4:Int)≠(0:Int),IntKind.i64=IntKind.i64,(4:Int)≠(0:Int),qi (8:Int),qi (16:Int),(0:Int)≤(16:Int),qi (18:Int)]) (by kernel_rfl) ⟨rfl,by decide,rfl,by decide,⟨by decide,by decide⟩,⟨by decide,by decide⟩,by decide,⟨by decide,by decide⟩,trivial⟩ h
theorem qFn {c e:Nat→Int} {q:Int} {Q:V→Aev.Rows→Prop} {d:D} (h:qb (cS d) 0 (H3 c e q 19) Q):qb (cS d) 0 (H3 c e q 18) Q :=
 qb.turn (q7 d) (qg [] [] [] 0 false true) qo 300 [0,1,2] [1,2,40,6] (ps:=[IntKind.i64=IntKind.i64,(4:Int)≠(0:Int),IntKind.i64=IntKind.i64,(4:Int)≠(0:Int),qi (16:Int),qi (8:Int),(0:Int)≤(8:Int),qi (19:Int)]) (by kernel_rfl) ⟨rfl,by decide,rfl,by decide,⟨by decide,by decide⟩,⟨by decide,by decide⟩,by decide,⟨by decide,by decide⟩,trivial⟩ h
theorem qFo {c e:Nat→Int} {q:Int} {Q:V→Aev.Rows→Prop} {d:D} (h:qb (cS d) 0 (H3 c e q 20) Q):qb (cS d) 0 (H3 c e q 19) Q :=
 qb.turn (q7 d) (qg [] [] [] 0 false true) qo 300 [0,1,2] [1,2,40,6] (ps:=[IntKind.i64=IntKind.i64,(4:Int)≠(0:Int),IntKind.i64=IntKind.i64,(4:Int)≠(0:Int),qi (24:Int),qi (0:Int),(0:Int)≤(0:Int),qi (20:Int)]) (by kernel_rfl) ⟨rfl,by decide,rfl,by decide,⟨by decide,by decide⟩,⟨by decide,by decide⟩,by decide,⟨by decide,by decide⟩,trivial⟩ h
theorem qFp {c e:Nat→Int} {q:Int} {Q:V→Aev.Rows→Prop} {d:D} (h:qb (cS d) 0 (H3 c e q 21) Q):qb (cS d) 0 (H3 c e q 20) Q :=
 qb.turn (q7 d) (qg [] [] [] 0 false true) qo 300 [0,1,2] [1,2,40,6] (ps:=[IntKind.i64=IntKind.i64,(4:Int)≠(0:Int),IntKind.i64=IntKind.i64,(4:Int)≠(0:Int),qi (0:Int),qi (24:Int),(0:Int)≤(24:Int),qi (21:Int)]) (by kernel_rfl) ⟨rfl,by decide,rfl,by decide,⟨by decide,by decide⟩,⟨by decide,by decide⟩,by decide,⟨by decide,by decide⟩,trivial⟩ h
theorem qFq {c e:Nat→Int} {q:Int} {Q:V→Aev.Rows→Prop} {d:D} (h:qb (cS d) 0 (H3 c e q 22) Q):qb (cS d) 0 (H3 c e q 21) Q :=
 qb.turn (q7 d) (qg [] [] [] 0 false true) qo 300 [0,1,2] [1,2,40,6] (ps:=[IntKind.i64=IntKind.i64,(4:Int)≠(0:Int),IntKind.i64=IntKind.i64,(4:Int)≠(0:Int),qi (8:Int),qi (16:Int),(0:Int)≤(16:Int),qi (22:Int)]) (by kernel_rfl) ⟨rfl,by decide,rfl,by decide,⟨by decide,by decide⟩,⟨by decide,by decide⟩,by decide,⟨by decide,by decide⟩,trivial⟩ h
theorem qFr {c e:Nat→Int} {q:Int} {Q:V→Aev.Rows→Prop} {d:D} (h:qb (cS d) 0 (H3 c e q 23) Q):qb (cS d) 0 (H3 c e q 22) Q :=
 qb.turn (q7 d) (qg [] [] [] 0 false true) qo 300 [0,1,2] [1,2,40,6] (ps:=[IntKind.i64=IntKind.i64,(4:Int)≠(0:Int),IntKind.i64=IntKind.i64,(4:Int)≠(0:Int),qi (16:Int),qi (8:Int),(0:Int)≤(8:Int),qi (23:Int)]) (by kernel_rfl) ⟨rfl,by decide,rfl,by decide,⟨by decide,by decide⟩,⟨by decide,by decide⟩,by decide,⟨by decide,by decide⟩,trivial⟩ h
theorem qFs {c e:Nat→Int} {q:Int} {Q:V→Aev.Rows→Prop} {d:D} (h:qb (cS d) 0 (H3 c e q 24) Q):qb (cS d) 0 (H3 c e q 23) Q :=
 qb.turn (q7 d) (qg [] [] [] 0 false true) qo 300 [0,1,2] [1,2,40,6] (ps:=[IntKind.i64=IntKind.i64,(4:Int)≠(0:Int),IntKind.i64=IntKind.i64,(4:Int)≠(0:Int),qi (24:Int),qi (0:Int),(0:Int)≤(0:Int),qi (24:Int)]) (by kernel_rfl) ⟨rfl,by decide,rfl,by decide,⟨by decide,by decide⟩,⟨by decide,by decide⟩,by decide,⟨by decide,by decide⟩,trivial⟩ h
theorem qFt {c e:Nat→Int} {q:Int} {Q:V→Aev.Rows→Prop} {d:D} (h:qb (cS d) 0 (H3 c e q 25) Q):qb (cS d) 0 (H3 c e q 24) Q :=
 qb.turn (q7 d) (qg [] [] [] 0 false true) qo 300 [0,1,2] [1,2,40,6] (ps:=[IntKind.i64=IntKind.i64,(4:Int)≠(0:Int),IntKind.i64=IntKind.i64,(4:Int)≠(0:Int),qi (0:Int),qi (24:Int),(0:Int)≤(24:Int),qi (25:Int)]) (by kernel_rfl) ⟨rfl,by decide,rfl,by decide,⟨by decide,by decide⟩,⟨by decide,by decide⟩,by decide,⟨by decide,by decide⟩,trivial⟩ h
theorem qFu {c e:Nat→Int} {q:Int} {Q:V→Aev.Rows→Prop} {d:D} (h:qb (cS d) 0 (H3 c e q 26) Q):qb (cS d) 0 (H3 c e q 25) Q :=
 qb.turn (q7 d) (qg [] [] [] 0 false true) qo 300 [0,1,2] [1,2,40,6] (ps:=[IntKind.i64=IntKind.i64,(4:Int)≠(0:Int),IntKind.i64=IntKind.i64,(4:Int)≠(0:Int),qi (8:Int),qi (16:Int),(0:Int)≤(16:Int),qi (26:Int)]) (by kernel_rfl) ⟨rfl,by decide,rfl,by decide,⟨by decide,by decide⟩,⟨by decide,by decide⟩,by decide,⟨by decide,by decide⟩,trivial⟩ h
theorem qFv {c e:Nat→Int} {q:Int} {Q:V→Aev.Rows→Prop} {d:D} (h:qb (cS d) 0 (H3 c e q 27) Q):qb (cS d) 0 (H3 c e q 26) Q :=
 qb.turn (q7 d) (qg [] [] [] 0 false true) qo 300 [0,1,2] [1,2,40,6] (ps:=[IntKind.i64=IntKind.i64,(4:Int)≠(0:Int),IntKind.i64=IntKind.i64,(4:Int)≠(0:Int),qi (16:Int),qi (8:Int),(0:Int)≤(8:Int),qi (27:Int)]) (by kernel_rfl) ⟨rfl,by decide,rfl,by decide,⟨by decide,by decide⟩,⟨by decide,by decide⟩,by decide,⟨by decide,by decide⟩,trivial⟩ h
theorem qFw {c e:Nat→Int} {q:Int} {Q:V→Aev.Rows→Prop} {d:D} (h:qb (cS d) 0 (H3 c e q 28) Q):qb (cS d) 0 (H3 c e q 27) Q :=
 qb.turn (q7 d) (qg [] [] [] 0 false true) qo 300 [0,1,2] [1,2,40,6] (ps:=[IntKind.i64=IntKind.i64,(4:Int)≠(0:Int),IntKind.i64=IntKind.i64,(4:Int)≠(0:Int),qi (24:Int),qi (0:Int),(0:Int)≤(0:Int),qi (28:Int)]) (by kernel_rfl) ⟨rfl,by decide,rfl,by decide,⟨by decide,by decide⟩,⟨by decide,by decide⟩,by decide,⟨by decide,by decide⟩,trivial⟩ h
theorem qFx {c e:Nat→Int} {q:Int} {Q:V→Aev.Rows→Prop} {d:D} (h:qb (cS d) 0 (H3 c e q 29) Q):qb (cS d) 0 (H3 c e q 28) Q :=
 qb.turn (q7 d) (qg [] [] [] 0 false true) qo 300 [0,1,2] [1,2,40,6] (ps:=[IntKind.i64=IntKind.i64,(4:Int)≠(0:Int),IntKind.i64=IntKind.i64,(4:Int)≠(0:Int),qi (0:Int),qi (24:Int),(0:Int)≤(24:Int),qi (29:Int)]) (by kernel_rfl) ⟨rfl,by decide,rfl,by decide,⟨by decide,by decide⟩,⟨by decide,by decide⟩,by decide,⟨by decide,by decide⟩,trivial⟩ h
theorem qFy {c e:Nat→Int} {q:Int} {Q:V→Aev.Rows→Prop} {d:D} (h:qb (cS d) 0 (H3 c e q 30) Q):qb (cS d) 0 (H3 c e q 29) Q :=
 qb.turn (q7 d) (qg [] [] [] 0 false true) qo 300 [0,1,2] [1,2,40,6] (ps:=[IntKind.i64=IntKind.i64,(4:Int)≠(0:Int),IntKind.i64=IntKind.i64,(4:Int)≠(0:Int),qi (8:Int),qi (16:Int),(0:Int)≤(16:Int),qi (30:Int)]) (by kernel_rfl) ⟨rfl,by decide,rfl,by decide,⟨by decide,by decide⟩,⟨by decide,by decide⟩,by decide,⟨by decide,by decide⟩,trivial⟩ h
theorem qFz {c e:Nat→Int} {q:Int} {Q:V→Aev.Rows→Prop} {d:D} (h:qb (cS d) 0 (H3 c e q 31) Q):qb (cS d) 0 (H3 c e q 30) Q :=
 qb.turn (q7 d) (qg [] [] [] 0 false true) qo 300 [0,1,2] [1,2,40,6] (ps:=[IntKind.i64=IntKind.i64,(4:Int)≠(0:Int),IntKind.i64=IntKind.i64,(4:Int)≠(0:Int),qi (16:Int),qi (8:Int),(0:Int)≤(8:Int),qi (31:Int)]) (by kernel_rfl) ⟨rfl,by decide,rfl,by decide,⟨by decide,by decide⟩,⟨by decide,by decide⟩,by decide,⟨by decide,by decide⟩,trivial⟩ h
theorem qFA {c e:Nat→Int} {q:Int} {Q:V→Aev.Rows→Prop} {d:D} (h:qb (cS d) 0 (H3 c e q 32) Q):qb (cS d) 0 (H3 c e q 31) Q :=
 qb.turn (q7 d) (qg [] [] [] 0 false true) qo 300 [0,1,2] [1,2,40,6] (ps:=[IntKind.i64=IntKind.i64,(4:Int)≠(0:Int),IntKind.i64=IntKind.i64,(4:Int)≠(0:Int),qi (24:Int),qi (0:Int),(0:Int)≤(0:Int),qi (32:Int)]) (by kernel_rfl) ⟨rfl,by decide,rfl,by decide,⟨by decide,by decide⟩,⟨by decide,by decide⟩,by decide,⟨by decide,by decide⟩,trivial⟩ h
theorem qFB {c e:Nat→Int} {q:Int} {d:D}:qb (cS d) 0 (H3 c e q 32) (Fin (.d (.agg (Jb (ww8 c) 32)))) :=
 qb.fin' (q7 d) (qg [] [] [] 0 false true) (fun _=>false) 300 (ps:=[]) (qs:=[]) (by kernel_rfl) trivial trivial
theorem qFC {c e:Nat→Int} {q:Int} {d:D}:qb (cS d) 0 (H3 c e q 0) (Fin (.d (.agg (Jb (ww8 c) 32)))) :=
 qE5 (qE6 (qE7 (qE8 (qE9 (qFa (qFb (qFc (qFd (qFe (qFf (qFg (qFh (qFi (qFj (qFk (qFl (qFm (qFn (qFo (qFp (qFq (qFr (qFs (qFt (qFu (qFv (qFw (qFx (qFy (qFz (qFA (qFB))))))))))))))))))))))))))))))))
theorem qvD {o:List UInt8} {z:Int} {y:UInt8} (h:z=y.toNat):qd0 o z=qh (o++[y]):=by
 unfold qd0;rw[qga,qhO,h]; rfl
theorem qFD {a b:Nat→Int} {n:Int} {o:List UInt8} {ex:Bool} {z:Int} {y:UInt8} (h:z=y.toNat):H1g a b n (qd0 o z) (o.length+1) ex=H1 a b n (o++[y]) ex:=by
 unfold H1;rw[qvD h,qTN]; rfl
theorem qFE {a b:Nat→Int} {n:Int} {o:List UInt8} {ex:Bool} {i z:Int} {y:UInt8} (h:z=y.toNat):H2g a b n (qd0 o z) (o.length+1) ex i=H2 a b n (o++[y]) ex i:=by
 unfold H2;rw[qvD h,qTN]; rfl
theorem qvE {o:List UInt8} (h:o.length≤100):qe2 o:=⟨by omega,by omega,rfl,rfl,by rw[q5]; omega,by omega,by omega,by omega⟩
def zzL (L:Nat):List UInt8:=[0,0,0,0,0,0,UInt8.ofNat (8*L / 256),UInt8.ofNat (8*L % 256)]
def qvF:Bool:=(List.range 56).all fun L=>(List.range 8).all fun i=>decide (IntKind.wrap IntKind.u8 (Int.fdiv (IntKind.wrap IntKind.u64 ((8:Int)*(L:Nat))) ((2:Int) ^ min (Int.toNat ((56:Int) - (8:Int)*(i:Nat))) 64))=((((zzL L).getD i 0).toNat:Nat):Int))
theorem qFF:qvF=true:=by kernel_rfl
theorem qFG {L i:Nat} (hL:L<56) (hi:i<8):IntKind.wrap IntKind.u8 (Int.fdiv (IntKind.wrap IntKind.u64 ((8:Int)*(L:Nat))) ((2:Int) ^ min (Int.toNat ((56:Int) - (8:Int)*(i:Nat))) 64))=((((zzL L).getD i 0).toNat:Nat):Int):=by
 have h:=qFF;unfold qvF at h;have h:=qTI.1 h L (qU2.2 hL);have h:=qTI.1 h i (qU2.2 hi);exact of_decide_eq_true h
theorem qvG {L:Nat} (h:L<56):IntKind.wrap IntKind.i64 (L:Int)=(L:Int):=qf4 (by unfold qi; omega)
theorem qFH {m:Nat} (h:m<56):((Int.tmod (m:Int) 64) != (56:Int))=true:=by
 have e:Int.tmod (m:Int) 64=(m:Int):=by rw[qWq (by omega)]; omega
 rw[e,bne_iff_ne]; omega
theorem qcD:∀o:List UInt8,List.map unB (qh o)=o
 | []=>rfl|y::o=>by
  have e:unB (Yr y)=y:=by
   unfold unB Yr;simp
  show unB (Yr y)::List.map unB (qh o)=_;rw[e,qcD o]
variable {a b c e:Nat→Int} {q:Int} {L:Nat}
def qd1 (L:Nat):List UInt8:=128::(List.replicate (55 - L) 0++zzL L)
theorem qFI {o:List UInt8} (h:RCs PP 103 [.d (stm a b L),.d (.str ⟨⟨o⟩⟩)] [] (.d (stm c e q))):qb (cS (stm c e q)) 0 (H2 a b L o false 8) (Fin (.d (.agg (Jb (ww8 c) 32)))) :=
 qE4 ⟨rfl,rfl,by rw[q5]; omega,by rw[qga,qcD],by rw[qga,qcD]; exact h,trivial⟩ qFC
theorem qd2 {Q:V→Aev.Rows→Prop} {o:List UInt8} {i:Nat} (hL:L<56) (ho:o.length≤100) (hi:i<8) (ex:Bool) (h:qb (cS (stm c e q)) 0 (H2 a b L (o++[(zzL L).getD i 0]) false (i+1:Nat)) Q):qb (cS (stm c e q)) 0 (H2 a b L o ex (i:Nat)) Q:=by
 have hp:qf [decide ((i:Int)<(8:Int))=true,qi ((8:Int)*(i:Nat)),qi ((56:Int) - (8:Int)*(i:Nat)),(0:Int)≤(56:Int) - (8:Int)*(i:Nat),1=1∧1=1∧1≤1,qe2 o,qi ((i:Int)+(1:Int))]:=⟨decide_eq_true (by omega),by unfold qi; omega,by unfold qi; omega,by omega,⟨rfl,rfl,by omega⟩,qvE ho,by unfold qi; omega,trivial⟩
 have h':=h;rw[←qFE (qFG hL hi)]at h'
 cases ex with
 | true=>exact qE0 hp h'|false=>exact qE3 hp h'
theorem qFJ {o:List UInt8} (hL:L<56) (ho:o.length≤80) (ex:Bool) (h:RCs PP 103 [.d (stm a b L),.d (.str ⟨⟨o++zzL L⟩⟩)] [] (.d (stm c e q))):qb (cS (stm c e q)) 0 (H2 a b L o ex 0) (Fin (.d (.agg (Jb (ww8 c) 32)))):=by
 refine qd2 (i:=0) hL (by omega) (by decide) ex ?_;refine qd2 (i:=1) hL (by simp; omega) (by decide) false ?_;refine qd2 (i:=2) hL (by simp; omega) (by decide) false ?_;refine qd2 (i:=3) hL (by simp; omega) (by decide) false ?_;refine qd2 (i:=4) hL (by simp; omega) (by decide) false ?_;refine qd2 (i:=5) hL (by simp; omega) (by decide) false ?_;refine qd2 (i:=6) hL (by simp; omega) (by decide) false ?_;refine qd2 (i:=7) hL (by simp; omega) (by decide) false ?_;refine qFI ?_;simp only[qTW];exact h
theorem qFK (hL:L<56):∀(j:Nat) (o:List UInt8) (ex:Bool),L+o.length+j=56→RCs PP 103 [.d (stm a b L),.d (.str ⟨⟨o++(List.replicate j 0++zzL L)⟩⟩)] [] (.d (stm c e q))→qb (cS (stm c e q)) 0 (H1 a b L o ex) (Fin (.d (.agg (Jb (ww8 c) 32)))):=by
 intro j
 induction j with
 | zero =>
  intro o ex hj h;have hp:qf [qi (IntKind.wrap IntKind.i64 (L:Int)+(↑o.length:Int)),IntKind.i64=IntKind.i64,(64:Int)≠(0:Int),(Int.tmod (IntKind.wrap IntKind.i64 (L:Int)+(↑o.length:Int)) (64:Int) != (56:Int))=false]:=by
   rw[qvG hL,show(L:Int)+(↑o.length:Int)=56 by omega];exact⟨by unfold qi; omega,rfl,by decide,by decide,trivial⟩
  have h2:=qFJ (a:=a) (b:=b) (c:=c) (e:=e) (q:=q) hL (o:=o) (by omega) ex h
  cases ex with
  | true=>exact qEZ hp h2|false=>exact qE2 hp h2
 | succ j ih =>
  intro o ex hj h;have hp:qf [qi (IntKind.wrap IntKind.i64 (L:Int)+(↑o.length:Int)),IntKind.i64=IntKind.i64,(64:Int)≠(0:Int),(Int.tmod (IntKind.wrap IntKind.i64 (L:Int)+(↑o.length:Int)) (64:Int) != (56:Int))=true,1=1∧1=1∧1≤1,qe2 o]:=by
   rw[qvG hL,show(L:Int)+(↑o.length:Int)=((L+o.length:Nat):Int) by omega];exact⟨by unfold qi; omega,rfl,by decide,qFH (by omega),⟨rfl,rfl,by omega⟩,qvE (by omega),trivial⟩
  have h2:=ih (o++[0]) false (by simp; omega) (by rw[qTW]; exact h);rw[←qFD (z:=0) (y:=0) rfl]at h2
  cases ex with
  | true=>exact qEY hp h2|false=>exact qE1 hp h2
theorem qFL (hL:L<56) (h:RCs PP 103 [.d (stm a b L),.d (.str ⟨⟨qd1 L⟩⟩)] [] (.d (stm c e q))):RCs PP 105 [.d (stm a b L)] [] (.d (.agg (Jb (ww8 c) 32))) :=
 qP (q7 (stm c e q)) (by kernel_rfl) (qEX (qFK hL (55 - L) [128] true (by show L+1+(55 - L)=56; omega) h))
end Go.Aev.M44
end
section
namespace Go.Aev.M44
open Go Go.Aev Go.Aev.R29
def qEo (S1 S2 S3:D) (G:ByteArray→List UInt8) (r:List D) (g:FuncId):Option (List V→V):=match Nat.beq g 102,Nat.beq g 103,Nat.beq g 104,Nat.beq g 105 with
 | true,_,_,_=>some fun _=>.d (stm iv0 (fun _=>0) 0)
 | _,true,_,_=>some fun args=>match args with
  | [.d (.agg cs),_]=>match cs.getD 72 .nilp with
   | .int _ (Int.ofNat 0)=>.d S1|.int _ (Int.ofNat 1)=>.d S2|_=>.d S3
  | _=>.nil
 | _,_,true,_=>some fun args=>match args with
  | [.d (.str t)]=>LB (G t)|_=>.nil
 | _,_,_,true=>some fun _=>.d (.agg r)
 | _,_,_,_=>none
noncomputable def cO (S1 S2 S3:D) (G:ByteArray→List UInt8) (r:List D):qw:=kA (qEo S1 S2 S3 G r)
theorem qdh (S1 S2 S3:D) (G:ByteArray→List UInt8) (r:List D):COK (cO S1 S2 S3 G r).cfg:=YC _
noncomputable def qEp:List qT:=(JJ (sTo (cO (stm iv0 iv0 1) .nilp .nilp (fun _=>[]) []) (qg [] [] [] 0 false true) qo 300 (start (cO (stm iv0 iv0 1) .nilp .nilp (fun _=>[]) []) 48 [I 291,.d (.list [.str ⟨⟨[]⟩⟩])] []))).fr.todo
noncomputable def Q1 (a b:Nat→Int) (n:Int) (ts:List D) (k:Int):AS:=hd 48 qEp 32 [(4,.pt 0 0 0 0),(5,.pt 1 0 0 0),(15,.d (.list ts)),(16,I ts.length),(17,I k)] [.live (.box ((List.range 16).map fun _=>V.d (.int .u8 0)) false),BX a b n]
def r32 (r:Nat→Int):List D:=(List.range 32).map fun i=>.int .u8 (r i)
def r16 (r:Nat→Int):List D:=(List.range 16).map fun i=>.int .u8 (r i)
variable {a1 b1 a2 b2 a3 b3:Nat→Int} {n2 n3:Int} {S2 S3:D} {G:ByteArray→List UInt8} {r:Nat→Int} {t u:ByteArray} {Q:V→Aev.Rows→Prop}
def JL (s:D) (x:ByteArray) (s':D):Prop:=RCs PP 103 [.d s,.d (.str x)] [] (.d s')
theorem qEq (h1:JL (stm iv0 (fun _=>0) 0) ⟨⟨[35]⟩⟩ (stm a1 b1 1)) (h:qb (cO (stm a1 b1 1) S2 S3 G (r32 r)) 0 (Q1 a1 b1 1 [.str t] 0) Q):qb (cO (stm a1 b1 1) S2 S3 G (r32 r)) 0 (start (cO (stm a1 b1 1) S2 S3 G (r32 r)) 48 [I 291,.d (.list [.str t])] []) Q :=
 qb.turn (qdh (stm a1 b1 1) S2 S3 G (r32 r)) (qg [] [] [] 0 false true) qo 600 [0,7] [4,5,15,16,17] (ps:=[RCs PP 102 [] [] (.d (stm iv0 (fun _=>0) 0)),1=1,1=1,1≤1,[D.int IntKind.u8 (35:Int)]=[D.int IntKind.u8 (35:Int)],JL (stm iv0 (fun _=>0) 0) ⟨⟨[35]⟩⟩ (stm a1 b1 1)]) (by kernel_rfl) ⟨quZ,rfl,rfl,by omega,rfl,h1,trivial⟩ h
theorem qEr (h1:JL (stm iv0 (fun _=>0) 0) ⟨⟨[31]⟩⟩ (stm a1 b1 1)) (h:qb (cO (stm a1 b1 1) S2 S3 G (r32 r)) 0 (Q1 a1 b1 1 [.str t,.str u] 0) Q):qb (cO (stm a1 b1 1) S2 S3 G (r32 r)) 0 (start (cO (stm a1 b1 1) S2 S3 G (r32 r)) 48 [I 31,.d (.list [.str t,.str u])] []) Q :=
 qb.turn (qdh (stm a1 b1 1) S2 S3 G (r32 r)) (qg [] [] [] 0 false true) qo 600 [0,7] [4,5,15,16,17] (ps:=[RCs PP 102 [] [] (.d (stm iv0 (fun _=>0) 0)),1=1,1=1,1≤1,[D.int IntKind.u8 (31:Int)]=[D.int IntKind.u8 (31:Int)],JL (stm iv0 (fun _=>0) 0) ⟨⟨[31]⟩⟩ (stm a1 b1 1)]) (by kernel_rfl) ⟨quZ,rfl,rfl,by omega,rfl,h1,trivial⟩ h
def txB (G:ByteArray→List UInt8) (t:ByteArray):ByteArray:=⟨⟨List.map unB (qh (G t))⟩⟩
theorem qpu:txB G t=⟨⟨G t⟩⟩:=by unfold txB; rw[qcD]
theorem qEs (h1:RCs PP 104 [.d (.str t)] [] (LB (G t))) (h2:JL (stm a1 b1 1) ⟨⟨G t⟩⟩ (stm a2 b2 n2)) (h:qb (cO (stm a1 b1 1) (stm a2 b2 n2) S3 G (r32 r)) 0 (Q1 a2 b2 n2 [.str t] 1) Q):qb (cO (stm a1 b1 1) (stm a2 b2 n2) S3 G (r32 r)) 0 (Q1 a1 b1 1 [.str t] 0) Q :=
 qb.turn (qdh (stm a1 b1 1) (stm a2 b2 n2) S3 G (r32 r)) (qg [] [] [] 0 false true) qo 600 [0,1] [4,5,15,16,17] (ps:=[RCs PP 104 [.d (.str t)] [] (LB (G t)),qh (G t)=qh (List.map unB (qh (G t))),JL (stm a1 b1 1) (txB G t) (stm a2 b2 n2),qi (1:Int)]) (by kernel_rfl) ⟨h1,by rw[qcD],by rw[qpu]; exact h2,⟨by decide,by decide⟩,trivial⟩ h
theorem qEt (h1:RCs PP 104 [.d (.str t)] [] (LB (G t))) (h2:JL (stm a1 b1 1) ⟨⟨G t⟩⟩ (stm a2 b2 n2)) (h:qb (cO (stm a1 b1 1) (stm a2 b2 n2) S3 G (r32 r)) 0 (Q1 a2 b2 n2 [.str t,.str u] 1) Q):qb (cO (stm a1 b1 1) (stm a2 b2 n2) S3 G (r32 r)) 0 (Q1 a1 b1 1 [.str t,.str u] 0) Q :=
 qb.turn (qdh (stm a1 b1 1) (stm a2 b2 n2) S3 G (r32 r)) (qg [] [] [] 0 false true) qo 600 [0,1] [4,5,15,16,17] (ps:=[RCs PP 104 [.d (.str t)] [] (LB (G t)),qh (G t)=qh (List.map unB (qh (G t))),JL (stm a1 b1 1) (txB G t) (stm a2 b2 n2),qi (1:Int)]) (by kernel_rfl) ⟨h1,by rw[qcD],by rw[qpu]; exact h2,⟨by decide,by decide⟩,trivial⟩ h
theorem qEu (h1:RCs PP 104 [.d (.str u)] [] (LB (G u))) (h2:JL (stm a2 b2 18) ⟨⟨G u⟩⟩ (stm a3 b3 n3)) (h:qb (cO (stm a1 b1 1) (stm a2 b2 18) (stm a3 b3 n3) G (r32 r)) 0 (Q1 a3 b3 n3 [.str t,.str u] 2) Q):qb (cO (stm a1 b1 1) (stm a2 b2 18) (stm a3 b3 n3) G (r32 r)) 0 (Q1 a2 b2 18 [.str t,.str u] 1) Q :=
 qb.turn (qdh (stm a1 b1 1) (stm a2 b2 18) (stm a3 b3 n3) G (r32 r)) (qg [] [] [] 0 false true) qo 600 [0,1] [4,5,15,16,17] (ps:=[RCs PP 104 [.d (.str u)] [] (LB (G u)),qh (G u)=qh (List.map unB (qh (G u))),JL (stm a2 b2 18) (txB G u) (stm a3 b3 n3),qi (2:Int)]) (by kernel_rfl) ⟨h1,by rw[qcD],by rw[qpu]; exact h2,⟨by decide,by decide⟩,trivial⟩ h
theorem qEv {S1:D} (h1:RCs PP 105 [.d (stm a2 b2 n2)] [] (.d (.agg (r32 r)))):qb (cO S1 S2 S3 G (r32 r)) 0 (Q1 a2 b2 n2 [.str t] 1) (Fin (.d (.agg (r16 r)))) :=
 qb.fin' (qdh S1 S2 S3 G (r32 r)) (qg [] [] [] 0 false true) (fun _=>false) 600 (ps:=[RCs PP 105 [.d (stm a2 b2 n2)] [] (.d (.agg (r32 r)))]) (qs:=[]) (by kernel_rfl) ⟨h1,trivial⟩ trivial
theorem qEw {S1:D} (h1:RCs PP 105 [.d (stm a3 b3 n3)] [] (.d (.agg (r32 r)))):qb (cO S1 S2 S3 G (r32 r)) 0 (Q1 a3 b3 n3 [.str t,.str u] 2) (Fin (.d (.agg (r16 r)))) :=
 qb.fin' (qdh S1 S2 S3 G (r32 r)) (qg [] [] [] 0 false true) (fun _=>false) 600 (ps:=[RCs PP 105 [.d (stm a3 b3 n3)] [] (.d (.agg (r32 r)))]) (qs:=[]) (by kernel_rfl) ⟨h1,trivial⟩ trivial
theorem qEx (h0:JL (stm iv0 (fun _=>0) 0) ⟨⟨[35]⟩⟩ (stm a1 b1 1)) (h1:RCs PP 104 [.d (.str t)] [] (LB (G t))) (h2:JL (stm a1 b1 1) ⟨⟨G t⟩⟩ (stm a2 b2 n2)) (h3:RCs PP 105 [.d (stm a2 b2 n2)] [] (.d (.agg (r32 r)))):RCs PP 48 [I 291,.d (.list [.str t])] [] (.d (.agg (r16 r))) :=
 qP (qdh (stm a1 b1 1) (stm a2 b2 n2) .nilp G (r32 r)) (by kernel_rfl) (qEq h0 (qEs h1 h2 (qEv h3)))
theorem qEy (h0:JL (stm iv0 (fun _=>0) 0) ⟨⟨[31]⟩⟩ (stm a1 b1 1)) (h1:RCs PP 104 [.d (.str t)] [] (LB (G t))) (h2:JL (stm a1 b1 1) ⟨⟨G t⟩⟩ (stm a2 b2 18)) (h4:RCs PP 104 [.d (.str u)] [] (LB (G u))) (h5:JL (stm a2 b2 18) ⟨⟨G u⟩⟩ (stm a3 b3 n3)) (h3:RCs PP 105 [.d (stm a3 b3 n3)] [] (.d (.agg (r32 r)))):RCs PP 48 [I 31,.d (.list [.str t,.str u])] [] (.d (.agg (r16 r))) :=
 qP (qdh (stm a1 b1 1) (stm a2 b2 18) (stm a3 b3 n3) G (r32 r)) (by kernel_rfl) (qEr h0 (qEt h1 h2 (qEu h4 h5 (qEw h3))))
end Go.Aev.M44
end
section
namespace Go.Aev.M44
open Go Go.Aev Go.Aev.R29
def y16 (y:Nat→UInt8):List D:=(List.range 16).map fun i=>Yr (y i)
def qEl (b:List UInt8) (r:D) (g:FuncId):Option (List V→V):=match Nat.beq g 48,Nat.beq g 49 with
 | true,_=>some fun _=>.d r
 | _,true=>some fun _=>LB b
 | _,_=>none
noncomputable def cN (b:List UInt8) (r:D):qw:=kA (qEl b r)
theorem qkC (b:List UInt8) (r:D):COK (cN b r).cfg:=YC _
noncomputable def hN (y z:Nat→UInt8):qB:={qg [] [] [] 1 false true with arr:=fun r=>match r with|0=>some (16,y16 y,fun _=>.nilp) | 1=>some (16,y16 z,fun _=>.nilp) | _=>none}
def qb2 (y:Nat→UInt8):List D:=List.take 16 (List.drop 0 (y16 y))
def txY (y:Nat→UInt8):ByteArray:=⟨⟨List.map unB (qb2 y)⟩⟩
theorem qvt (y:Nat→UInt8):qb2 y=qh (List.map unB (qb2 y)):=by
 have e:qb2 y=qh ((List.range 16).map y):=by
  unfold qb2;rw[qTY,qTX (by simp[y16])];unfold y16 qh;rw[qUs]; rfl
 rw[e,qcD]
variable {y z:Nat→UInt8} {r:Nat→Int} {b:List UInt8} {k n:Int}
theorem qEm (h:RCs PP 48 [I 31,.d (.list [.str (txY y),.str (txY z)])] [] (.d (.agg (r16 r)))):RCs PP 113 [.d (.agg (y16 y)),.d (.agg (y16 z))] [] (.d (.agg (r16 r))) :=
 qP (qkC [] (.agg (r16 r))) (by kernel_rfl) (qb.fin' (qkC [] (.agg (r16 r))) (hN y z) (fun _=>false) 200
  (ps:=[(y16 y).map V.d=(y16 y).map V.d,0≤16,16≤16,16≤16,1≤16,1=1,(y16 y).map V.d=(y16 y).map V.d,16≤16,qb2 y=qh (List.map unB (qb2 y)),(y16 z).map V.d=(y16 z).map V.d,0≤16,16≤16,16≤16,1≤16,1=1,(y16 z).map V.d=(y16 z).map V.d,16≤16,qb2 z=qh (List.map unB (qb2 z)),1=1∧2≤2,RCs PP 48 [I 31,.d (.list [.str (txY y),.str (txY z)])] [] (.d (.agg (r16 r)))]) (qs:=[]) (by kernel_rfl)
  ⟨rfl,by omega,by omega,by omega,by omega,rfl,rfl,by omega,qvt y,rfl,by omega,by omega,by omega,by omega,rfl,rfl,by omega,qvt z,⟨rfl,by omega⟩,h,trivial⟩ trivial)
theorem qEn (h:RCs PP 49 [.d (.list [.int .i64 k,.int .i64 n])] [] (LB b)) (h2:RCs PP 48 [I 291,.d (.list [.str ⟨⟨b⟩⟩])] [] (.d (.agg (r16 r)))):RCs PP 16 [I k,I n] [] (.d (.agg (r16 r))) :=
 qP (qkC b (.agg (r16 r))) (by kernel_rfl) (qb.fin' (qkC b (.agg (r16 r))) (qg [] [] [] 0 false true) (fun _=>false) 200
  (ps:=[1=1∧2≤2,RCs PP 49 [.d (.list [.int .i64 k,.int .i64 n])] [] (LB b),qh b=qh (List.map unB (qh b)),1=1∧1≤1,RCs PP 48 [I 291,.d (.list [.str ⟨⟨List.map unB (qh b)⟩⟩])] [] (.d (.agg (r16 r)))]) (qs:=[]) (by kernel_rfl)
  ⟨⟨rfl,by omega⟩,h,by rw[qcD],⟨rfl,by omega⟩,by rw[qcD]; exact h2,trivial⟩ trivial)
end Go.Aev.M44
end
section
set_option linter.unusedVariables false
namespace Go.Aev.M44
open Go Go.Aev
noncomputable def C30 (l:List Int):AS:=JJ (sTo c0 (qg []) (qaM 4) 300 (start c0 49 [L l] []))
end Go.Aev.M44
namespace Go.Aev.M44
theorem qFQ {l:List Int} {o:List UInt8} {Q:V→Aev.Rows→Prop} (hp:qf []) (h:Q (V.sl (0) (1) (0) o.length o.length false) ([qd.live (Row.dat (1) (qh o) false)])):qb c0 0 (qbe (C30 l) (YD o) (YM o)) Q :=
 qb.toFin Yn (qg [] [] [] 0 false true) qo 140 (by kernel_rfl) hp h
end Go.Aev.M44
end
noncomputable section
namespace Go.Aev.M44
open Go Go.Aev
theorem qFP {l:List Int} (hl:fits l.length) (ha:∀x∈l,qK x):qS PP 49 0 [L l] [] (qbd (JX l)):=by
 refine YL.new (qa9 Yn (by kernel_rfl) ?_);refine qb.to Yn (qg []) (qaM 4) 300 (ps:=[]) (s':=C30 l) (by kernel_rfl) trivial ?_;exact qb.callB Yn (g:=106) (ar:=[L l,.fn 107 []]) (l:=JX l) (by kernel_rfl) (qEf hl ha) (by kernel_rfl) (qFQ trivial ⟨0,rfl,rfl⟩)
end Go.Aev.M44
end
noncomputable section
namespace Go.Aev.R29
open Go Go.Aev Go.Aev.R Go.Aev.M44
variable [PW]
theorem qHU {s:List D} (h:qac s):∃c,ww8 c=s:=by
 obtain⟨a,b,c,d,e,f,g,h,rfl⟩:=h;exact⟨fun i=>match i with|0=>a|1=>b|2=>c|3=>d|4=>e|5=>f|6=>g|_=>h,rfl⟩
theorem qxq (a:Nat→Int):qac (ww8 a):=⟨_,_,_,_,_,_,_,_,rfl⟩
theorem qHV {a:Nat→Int} {bl:List D} (hl:bl.length=64) (hb:∀d∈bl,∃c:UInt8,d=Yr c):qM qiG [.agg (ww8 a),.list bl]:=by
 refine⟨⟨rfl,fun i y hy=>?_⟩,fun f hf=>?_⟩
 ·match i,hy with
  | 0,hy =>
   cases hy;exact⟨_,rfl,_,_,rfl,⟨_,rfl⟩,_,_,rfl,⟨_,rfl⟩,_,_,rfl,⟨_,rfl⟩,_,_,rfl,⟨_,rfl⟩,_,_,rfl,⟨_,rfl⟩,_,_,rfl,⟨_,rfl⟩,_,_,rfl,⟨_,rfl⟩,_,_,rfl,⟨_,rfl⟩,rfl⟩
  | 1,hy =>
   cases hy;exact⟨_,rfl,by omega,hb⟩
  | i+2,hy=>cases hy
 ·simp only[qiG,qgN,qTD,qTJ,or_false]at hf;subst hf;show(64:Int).toNat≤((bl.length:Int)).toNat;omega
theorem qHW {d:D} {s:List D} (h:qac s) (hd:d=.agg s):qdr qiG.rts d=.d (.agg s):=by
 obtain⟨a,b,c,d,e,f,g,h,rfl⟩:=h;subst hd;rfl
theorem qxr {a:Nat→Int} {bl:List D} (hl:bl.length=64) (hb:∀d∈bl,∃c:UInt8,d=Yr c) :
  ∃c,ww8 c=qaF bl (ww8 a)∧RCs PP 189 [.d (.agg (ww8 a)),.d (.list bl)] [] (.d (.agg (ww8 c))):=by
 obtain⟨d,⟨_,hq⟩,hr⟩:=qL5 _ (qHV (a:=a) hl hb);have hq:d=.agg (qaF bl (wds (.agg (ww8 a)))):=hq;rw[qJG (qxq a)]at hq;have he:=qJF bl (qxq a);have hr:RCs PP 189 [.d (.agg (ww8 a)),.d (.list bl)] [] (qdr qiG.rts d):=hr;rw[qHW he hq]at hr;obtain⟨c,hc⟩:=qHU he;exact⟨c,hc,by rw[hc]; exact hr⟩
def qfp (f:Nat→Int):Prop:=∀i,0≤f i∧f i<256
theorem qgJ {b:Nat→Int} (h:qfp b) (n m:Nat) (x:Nat→UInt8):qfp (upd b n m x):=by
 intro i;unfold upd;split
 ·have:=(x (i - n)).toNat_lt;constructor<;>omega
 ·exact h i
theorem qJe {b:Nat→Int} (h:qfp b):∀d∈qdg b,∃c:UInt8,d=Yr c:=by
 intro d hd;obtain⟨i,_,rfl⟩:=qTV.1 hd;refine⟨UInt8.ofNat (b i).toNat,?_⟩;have:=h i;rw[qdZ (n:=(b i).toNat) (by omega)];rw[show(((b i).toNat:Nat):Int)=b i by omega]
theorem qJf (b:Nat→Int):(qdg b).length=64:=by simp[qdg]
theorem qq0 {l:List UInt8} {m:Nat} (h:l.length=m):txt m (fun i=>l.getD i 0)=.str ⟨⟨l⟩⟩:=by
 unfold txt
 congr 3
 refine qU6 (by simp[h]) fun j h1 h2=>?_
 rw[qVI,qVJ,List.getD_eq_getElem?_getD,qTE h2];rfl
theorem qJg {L:Nat} (h:L<56):(qd1 L).length=64 - L:=by
 unfold qd1 zzL;simp;omega
theorem qJh {ws:List D} (hl:ws.length=32) (hi:∀x∈ws,∃n:Int,x=.int .u8 n):r32 (fun i=>toI (ws.getD i .nilp))=ws:=qsy hl hi
theorem qJi {H:List D} {r:Nat→Int} (h:∀i,toI (H.getD i .nilp)=r i):cpN H 16=r16 r:=by
 have e:∀i,gw H i=r i:=h;unfold cpN;simp only[cpN,e];rfl
theorem qx5 {b:Nat→Int} {L:Nat} (hL:L<56) (hb:qfp b) (ha:qbb L (64 - L)) :
  ∃r,cpN (Jb (qaF (qdg (upd b L (64 - L) fun i=>(qd1 L).getD i 0)) (ww8 iv0)) 32) 16=r16 r∧RCs PP 105 [.d (stm iv0 b L)] [] (.d (.agg (r32 r))):=by
 obtain⟨c,hc,h⟩:=qxr (a:=iv0) (qJf (upd b L (64 - L) fun i=>(qd1 L).getD i 0)) (qJe (qgJ hb _ _ _));have h1:=ha iv0 b (fun i=>(qd1 L).getD i 0) c h;rw[qq0 (qJg hL)]at h1;have h2:=qFL hL h1;rw[←hc];generalize ww8 c=s at h2;refine⟨fun i=>toI ((Jb s 32).getD i .nilp),?_,?_⟩
 ·exact qJi fun i=>rfl
 ·rw[qJh (qiX s 32) (qnf s 32)];exact h2
theorem qx6:qfp (fun _=>0):=fun i=>by show(0:Int)≤0∧(0:Int)<256; decide
def bl0:Nat→Int:=fun _=>0
def bl1 (t:UInt8):Nat→Int:=upd bl0 0 1 (fun i=>[t].getD i 0)
def bl2 (t:UInt8) (l:List UInt8):Nat→Int:=upd (bl1 t) 1 l.length (fun i=>l.getD i 0)
def bl3 (t:UInt8) (l k:List UInt8):Nat→Int:=upd (bl2 t l) (1+l.length) k.length (fun i=>k.getD i 0)
theorem qx7 (t:UInt8):JL (stm iv0 bl0 0) ⟨⟨[t]⟩⟩ (stm iv0 (bl1 t) 1):=by
 have h:=qDd iv0 bl0 (fun i=>[t].getD i 0);rw[qq0 (l:=[t]) (m:=1) rfl]at h;exact h
theorem qq1 {n:Nat} {a b:Nat→Int} {l:List UInt8} (h:qaw n l.length):JL (stm a b n) ⟨⟨l⟩⟩ (stm a (upd b n l.length (fun i=>l.getD i 0)) (n+l.length)):=by
 have h:=h a b (fun i=>l.getD i 0);rw[qq0 rfl]at h;exact h
theorem qq2 {t:ByteArray} (h:t.data.toList.length≤1000):RCs PP 104 [.d (.str t)] [] (LB (qH t.data.toList)):=qvB (s:=t.data.toList) (by unfold Jt; omega)
theorem qfq {a:D} (h:qj (Yw 301 301) a):∃y:Nat→UInt8,a=.agg (y16 y):=by
 obtain⟨cs,rfl,x0,r0,e0,⟨c0,rfl⟩,x1,r1,e1,⟨c1,rfl⟩,x2,r2,e2,⟨c2,rfl⟩,x3,r3,e3,⟨c3,rfl⟩,x4,r4,e4,⟨c4,rfl⟩,x5,r5,e5,⟨c5,rfl⟩,x6,r6,e6,⟨c6,rfl⟩,x7,r7,e7,⟨c7,rfl⟩,x8,r8,e8,⟨c8,rfl⟩,x9,r9,e9,⟨c9,rfl⟩,x10,r10,e10,⟨c10,rfl⟩,x11,r11,e11,⟨c11,rfl⟩,x12,r12,e12,⟨c12,rfl⟩,x13,r13,e13,⟨c13,rfl⟩,x14,r14,e14,⟨c14,rfl⟩,x15,r15,e15,⟨c15,rfl⟩,e16⟩:=h;cases e0; cases e1; cases e2; cases e3; cases e4; cases e5; cases e6; cases e7; cases e8; cases e9; cases e10; cases e11; cases e12; cases e13; cases e14; cases e15; cases e16;exact⟨fun i=>[c0,c1,c2,c3,c4,c5,c6,c7,c8,c9,c10,c11,c12,c13,c14,c15].getD i 0,rfl⟩
def txL (y:Nat→UInt8):List UInt8:=List.map unB (qb2 y)
theorem qit (y:Nat→UInt8):(txL y).length=16:=by
 unfold txL qb2 y16; simp
theorem qx8 (y:Nat→UInt8):qH (txL y)=32::txL y:=qqY (qit y)
theorem qJj (y z:Nat→UInt8):qdg (upd (bl3 31 (32::txL y) (32::txL z)) 35 29 fun i=>(qd1 35).getD i 0)=qae (.int .u8 31::(qh (32::txL y)++qh (32::txL z))):=by kernel_rfl
theorem qx9 (y:Nat→UInt8):toS (txD (.agg (y16 y)))=txL y:=by kernel_rfl
theorem qJk (y z:Nat→UInt8):qcT (.agg (y16 y)) (.agg (y16 z))=.int .u8 31::(qh (32::txL y)++qh (32::txL z)):=by
 rw[qx4,qx9,qx9]
def JR (a b:D):D:=.agg (cpN (qbO (qcT a b)) 16)
theorem qJl:ww8 iv0=ivL:=rfl
theorem qJm {a b:D} (ha:qj (Yw 301 301) a) (hb:qj (Yw 301 301) b):RCs PP 113 [.d a,.d b] [] (.d (JR a b)):=by
 obtain⟨y,rfl⟩:=qfq ha;obtain⟨z,rfl⟩:=qfq hb;have h3:qfp (bl3 31 (32::txL y) (32::txL z)):=qgJ (qgJ (qgJ qx6 _ _ _) _ _ _) _ _ _;obtain⟨r,hr,hs⟩:=qx5 (L:=35) (by decide) h3 qDq;have hs:RCs PP 105 [.d (stm iv0 (bl3 31 (32::txL y) (32::txL z)) 35)] [] (.d (.agg (r32 r))):=hs;have hr:cpN (Jb (qaF (qdg (upd (bl3 31 (32::txL y) (32::txL z)) 35 29 fun i=>(qd1 35).getD i 0)) (ww8 iv0)) 32) 16=r16 r:=hr;rw[qJj,qJl]at hr;have e:JR (.agg (y16 y)) (.agg (y16 z))=.agg (r16 r):=by
  unfold JR qbO;rw[qJk,hr]
 rw[e];have l1:(32::txL y).length=17:=by rw[qT9,qit]
 have l2:(32::txL z).length=17:=by rw[qT9,qit]
 refine qEm (qEy (G:=fun t=>qH t.data.toList) (b1:=bl1 31) (b2:=bl2 31 (32::txL y)) (b3:=bl3 31 (32::txL y) (32::txL z)) (a1:=iv0) (a2:=iv0) (a3:=iv0) (n3:=35) (qx7 31) (qq2 ?_) ?_ (qq2 ?_) ?_ hs)
 ·show(txL y).length≤1000; rw[qit]; omega
 ·show JL _ ⟨⟨qH (txL y)⟩⟩ _;rw[qx8];have:=qq1 (n:=1) (a:=iv0) (b:=bl1 31) (l:=32::txL y) (by rw[l1]; exact qDe);have e2:(((1:Nat):Int)+((32::txL y).length:Nat))=18:=by rw[l1]; rfl
  rw[e2]at this;exact this
 ·show(txL z).length≤1000; rw[qit]; omega
 ·show JL _ ⟨⟨qH (txL z)⟩⟩ _;rw[qx8];have:=qq1 (n:=18) (a:=iv0) (b:=bl2 31 (32::txL y)) (l:=32::txL z) (by rw[l2]; exact qDf);have e2:(((18:Nat):Int)+((32::txL z).length:Nat))=35:=by rw[l2]; rfl
  rw[e2]at this;have e3:upd (bl2 31 (32::txL y)) 18 (32::txL z).length (fun i=>(32::txL z).getD i 0)=bl3 31 (32::txL y) (32::txL z):=by
   unfold bl3; rw[l1]
  rw[e3]at this;exact this
theorem qIi {P:Program} {g:FuncId} {k:Nat} {args:List V} {rows:Aev.Rows} {R R':V→Aev.Rows→Prop} (h:qS P g k args rows R) (hr:∀v r,R v r→R' v r):qS P g k args rows R':=by
 intro w0 own m S w vs inv ha;exact(h w0 own m S w vs inv ha).mono fun e w' ⟨u,v,rows',he,hq,r⟩=>⟨u,v,rows',he,hr _ _ hq,r⟩
theorem qIj {g:FuncId} {args:List V} {l:List UInt8} (h:qS PP g 0 args [] (qbd l)):RCs PP g args [] (LB l) :=
 quJ (qIi h fun v r hb=>by
  obtain⟨rfl,rfl⟩:=hb;exact qvc rfl)
theorem qxT (s:List D):∀t,∀x∈Jb s t,∃c:UInt8,x=Yr c
 | 0,x,h=>⟨0,qVK h⟩|t+1,x,h=>by
  unfold Jb at h;rcases qVb h with h|h
  ·exact qxT s t x h
  ·unfold qne at h;rw[w8]at h;rw[h];generalize (gw s (IntKind.i64.wrap ((t:Int).tdiv 4)).toNat).fdiv (2 ^ (min (24 - 8*(t:Int).tmod 4).toNat 32))=z;refine⟨UInt8.ofNat (z % 256).toNat,?_⟩;rw[qdZ (n:=(z % 256).toNat) (by omega),show(((z % 256).toNat:Nat):Int)=z % 256 by omega]
theorem qxU {r:Nat→Int} (h:∀d∈r16 r,∃c:UInt8,d=Yr c):qj (Yw 301 301) (.agg (r16 r)):=by
 have k:∀i,i<16→qj .y8 (.int .u8 (r i)):=fun i hi=>h _ (qTV.2 ⟨i,qU2.2 hi,rfl⟩)
 exact⟨_,rfl,_,_,rfl,k 0 (by omega),_,_,rfl,k 1 (by omega),_,_,rfl,k 2 (by omega),_,_,rfl,k 3 (by omega),_,_,rfl,k 4 (by omega),_,_,rfl,k 5 (by omega),_,_,rfl,k 6 (by omega),_,_,rfl,k 7 (by omega),_,_,rfl,k 8 (by omega),_,_,rfl,k 9 (by omega),_,_,rfl,k 10 (by omega),_,_,rfl,k 11 (by omega),_,_,rfl,k 12 (by omega),_,_,rfl,k 13 (by omega),_,_,rfl,k 14 (by omega),_,_,rfl,k 15 (by omega),rfl⟩
theorem qxV {H:List D} (hl:H.length=32) (h:∀x∈H,∃c:UInt8,x=Yr c):∀t,t≤16→∀x∈cpN H t,∃c:UInt8,x=Yr c
 | 0,_,x,hx=>⟨0,qVK hx⟩|t+1,ht,x,hx=>by
  unfold cpN at hx;rcases qVb hx with hx|hx
  ·exact qxV hl h t (by omega) x hx
  ·have hm:H.getD t .nilp∈H:=by
    rw[List.getD_eq_getElem?_getD,qTE (by omega)];exact qTL _
   obtain⟨c,hc⟩:=h _ hm;refine⟨c,?_⟩;rw[hx];unfold gw;rw[hc]; rfl
theorem qqW {n:Int} (h0:0≤n) (h1:n≤59):(enc n).length=1:=by
 unfold enc;have:zz n<128:=by unfold zz; split<;>omega
 rw[vb,dif_pos this]; rfl
theorem qIk {k n:Int} (h0:0≤k) (h1:k≤59) (hn:qK n):4≤(qH (JX [k,n])).length∧(qH (JX [k,n])).length≤13:=by
 have e1:=qdj hn;have e2:=qhS n;have e3:=qqW h0 h1;have e4:(enc ((2:Nat):Int)).length=1:=qqW (by omega) (by omega);have e:(JX [k,n]).length=2+(enc n).length:=by
  unfold JX;simp only[qTN,qT9,qV1,qUq,qV6,e3,e4];omega
 have e5:(enc ((JX [k,n]).length:Nat)).length=1:=qqW (by omega) (by omega);unfold qH;rw[qTN,e5,e];omega
theorem qIl {m:Nat} (h0:4≤m) (h1:m≤13):qaw 1 m∧qbb (1+m) (64 - (1+m)):=by
 match m,h0,h1 with
 | 4,_,_=>exact⟨qDg,qDr⟩|5,_,_=>exact⟨qDh,qDs⟩|6,_,_=>exact⟨qDi,qDt⟩|7,_,_=>exact⟨qDj,qDu⟩|8,_,_=>exact⟨qDk,qDv⟩|9,_,_=>exact⟨qDl,qDw⟩|10,_,_=>exact⟨qDm,qDx⟩|11,_,_=>exact⟨qDn,qDy⟩|12,_,_=>exact⟨qDo,qDz⟩|13,_,_=>exact⟨qDp,qDA⟩
theorem qIm {k n:Int} (h0:0≤k) (h1:k≤59) (hn:qK n):∃d,RCs PP 16 [I k,I n] [] (.d d)∧qj (Yw 301 301) d:=by
 obtain⟨l0,l1⟩:=qIk h0 h1 hn;obtain⟨a1,a2⟩:=qIl l0 l1;have hb:qfp (bl2 35 (qH (JX [k,n]))):=qgJ (qgJ qx6 _ _ _) _ _ _;obtain⟨r,hr,hs⟩:=qx5 (L:=1+(qH (JX [k,n])).length) (by omega) hb a2;have hl:(JX [k,n]).length≤1000:=by
  unfold qH at l1;rw[qTN]at l1; omega
 have h49:RCs PP 49 [.d (.list [.int .i64 k,.int .i64 n])] [] (LB (JX [k,n])):=qIj (M44.qFP (l:=[k,n]) (by unfold fits; simp) (fun x hx=>by
  rcases qTD.1 hx with rfl|hx
  ·unfold qK; omega
  ·rcases qTD.1 hx with rfl|hx
   ·exact hn
   ·cases hx))
 refine⟨.agg (r16 r),qEn h49 (qEx (G:=fun t=>qH t.data.toList) (b1:=bl1 35) (b2:=bl2 35 (qH (JX [k,n]))) (a1:=iv0) (a2:=iv0) (n2:=((1+(qH (JX [k,n])).length:Nat):Int)) (qx7 35) (qq2 hl) ?_ hs),?_⟩
 ·have:=qq1 (n:=1) (a:=iv0) (b:=bl1 35) (l:=qH (JX [k,n])) a1;have e2:(((1:Nat):Int)+((qH (JX [k,n])).length:Nat))=((1+(qH (JX [k,n])).length:Nat):Int):=by omega
  rw[e2]at this;exact this
 ·refine qxU ?_;rw[←hr];exact qxV (qiX _ 32) (qxT _ 32) 16 (by omega)
def qcJ (a b:D):D:=qhL fun d=>RCs PP 16 [.d a,.d b] [] (.d d)∧qj (Yw 301 301) d
theorem qIn {k n:Int} (h0:0≤k) (h1:k≤59) (hn:qK n):RCs PP 16 [I k,I n] [] (.d (qcJ (.int .i64 k) (.int .i64 n)))∧qj (Yw 301 301) (qcJ (.int .i64 k) (.int .i64 n)) :=
 qpj (qIm h0 h1 hn)
theorem qxW {a b:D} (ha:qj (Yw 301 301) a) (hb:qj (Yw 301 301) b):RCs PP 56 [.d a,.d b] [] (.d (JR a b))∧qj (Yw 301 301) (JR a b):=by
 obtain⟨d,⟨⟨ht,_⟩,hq⟩,hr⟩:=qQk [a,b] ⟨⟨rfl,fun i y hy=>by
  match i,hy with
  | 0,hy=>cases hy; exact ha
  | 1,hy=>cases hy; exact hb
  | i+2,hy=>cases hy⟩,fun f hf=>by cases hf⟩
 have hd:d=JR a b:=hq (qJd a b);subst hd;refine⟨?_,ht⟩;have hr:RCs PP 56 [.d a,.d b] [] (qdr qzp.rts (JR a b)):=hr;obtain⟨y,hy⟩:=qfq ht;rw[hy]at hr ⊢;exact hr
end Go.Aev.R29
end
noncomputable section
namespace Go.Aev.S29
open Go Go.Aev Go.Aev.M44 Go.Aev.R29
abbrev PP:Program:=Go.Aev.R29.PP
def isD (k:IntKind) (l:List Nat):List D:=l.map fun n=>.int k (.ofNat n)
def st (l:List Nat):D:=.str ⟨⟨l.map UInt8.ofNat⟩⟩
def qqN (l:List Nat) (g:Nat):Bool:=match l with
 | []=>false|x::l=>match Nat.beq x g with
  | true=>true|false=>qqN l g
def poS (g:FuncId):Bool:=qqN [27,35,48,181,189,207,272] g
def wcS (g:FuncId):Bool:=qqN [49,68] g
def bs (t:List Ent):qdQ :=
 {P:=PP,T:=q6 PP,F:=fun g=>PP.funcs[g]?,rc:=qhM PP,po:=poS,fuel:=100000,wc:=wcS,tab:=qhH t}
theorem qqO {t:List Ent} (ht:∀e∈t,RCs PP e.g e.args e.rows e.v):BOK (bs t) :=
 ⟨fun _ _ h=>h,fun g gf h=>⟨h,qkt YN h⟩,qpl YN,mixed,fun g args rows v h=>ht _ (quW h)⟩
def Run (t:List Ent) (e:Ent):Prop:=((bs t).cfg 13).RC e.g e.args e.rows=some e.v
abbrev Yp (t:List Ent):Prop:=∀e∈t,RCs PP e.g e.args e.rows e.v
theorem qqP:Yp []:=fun e h=>by cases h
theorem Jv {t:List Ent} {e:Ent} (h:Run t e) (ht:Yp t):Yp (e::t):=by
 intro x hx;rcases qTD.1 hx with rfl|hx
 ·exact(qjR (qqO ht) 13).RC _ _ _ _ h
 ·exact ht x hx
theorem qfg {t:List Ent} {e:Ent} (h:RCs PP e.g e.args e.rows e.v) (ht:Yp t):Yp (e::t):=by
 intro x hx;rcases qTD.1 hx with rfl|hx
 ·exact h
 ·exact ht x hx
def dB:Cfg:=(bs []).cfg 8
theorem qxm:COK dB:=qjR (qqO qqP) 8
def d0:D:=.agg [.int .i64 15,.list [.int .i64 0,.int .i64 1,.int .i64 2]]
def d1:D:=.agg [.int .i64 11,.list [.int .i64 0,.int .i64 1,.int .i64 2]]
def d2:D:=.list [.list [.int .i64 5],.list [.int .i64 9],.list [.int .i64 20]]
def ivL:List Nat:=[1779033703,3144134277,1013904242,2773480762,1359893119,2600822924,528734635,1541459225]
def d3:D:=.agg (isD .u32 ivL)
def d4:D:=.agg [.int .i64 1,.int .i64 1,.int .i64 1,.int .i64 0,.int .i64 0,.int .i64 1048577,.int .i64 1,.list [.int .i64 5],.list []]
def d5:D:=.agg [.int .i64 2,.int .i64 1,.int .i64 1,.int .i64 0,.int .i64 0,.int .i64 1048577,.int .i64 1,.list [.int .i64 9],.list []]
def d6:D:=.agg [.int .i64 3,.int .i64 1,.int .i64 1,.int .i64 0,.int .i64 0,.int .i64 1048577,.int .i64 1,.list [.int .i64 20],.list []]
def d7:D:=.list [d0,d1,d0]
def d8:D:=.agg (isD .u8 [157,166,94,11,83,173,226,39,232,9,161,22,191,250,127,149])
def d9:D:=.agg [d7]
def d10:D:=.list (isD .u8 [28,6,0,0,130,128,128,1,2,2,2,10,2,40,2,0,30,0,0])
def d11:D:=.list [d4,d5,d6]
def d12:D:=.agg [.int .i64 3,.int .i64 1,.list [.list [.int .i64 5]],.int .i64 3,.list [.int .i64 5],.list [.int .i64 20],.list [.agg [.int .i64 0,.int .i64 15]],.int .i64 0,.int .i64 0,.int .i64 1048577,.int .i64 1,.int .i64 1,.list [],.list [],d11,d7,.list [.int .i64 0,.int .i64 0,.int .i64 0]]
def qcH (l r:List Nat):Ent:=⟨189,[.d d3,.sl 0 1 8 64 64 true],[.live (.box ((isD .u32 ivL).map .d++(isD .u8 l).map .d++[.d (.int .u64 64)]) true)],.d (.agg (isD .u32 r))⟩
def E0:Ent:=⟨83,[.d (.int .i64 1),.d (d2),.d (.int .i64 1)],[],.tup [.d (.list [.int .i64 0]),.d (.int .i64 0)]⟩
def E1:Ent:=⟨328,[.d (.int .i64 1),.sl 0 1 0 1 1 false],[.live (.dat 1 [.list [.int .i64 5]] true)],.d (.bool true)⟩
def E2:Ent:=⟨159,[.sl 0 1 0 3 3 false],[.live (.dat 1 [.list [.int .i64 5],.list [.int .i64 9],.list [.int .i64 20]] true)],.d (.bool true)⟩
def E3:Ent:=⟨258,[.d (.int .i64 1),.d (d2),.d (.int .i64 8)],[],.tup [.d (d9),.d (.int .i64 0)]⟩
def E4:Ent:=⟨165,[.agg [.d (.int .i64 1),.d (.int .i64 1),.nil,.sl 0 9 0 3 3 false,.d (.int .i64 3),.d (.int .i64 1),.sl 1 1 0 1 1 false,.d (.int .i64 0),.nil,.nil,.nil,.d (.int .i64 0),.d (.int .i64 0),.d (.int .i64 0),.d (.int .i64 0),.d (.int .i64 0),.nil,.nil,.nil,.nil,.sl 2 1 0 3 3 true]],[.live (.dat 9 [d4,d5,d6] true),.live (.dat 1 [.list [.int .i64 5]] true),.live (.dat 1 [.int .i64 0,.int .i64 0,.int .i64 0] true)],.tup [.d (d12),.d (.int .i64 0)]⟩
def E5:Ent:=⟨35,[.agg [.d (.int .i64 1),.d (.int .i64 1),.nil],.d (.int .i64 3),.d (.int .i64 1),.sl 0 9 0 3 3 false],[.live (.dat 9 [d4,d5,d6] true)],.tup [.d (d12),.d (.int .i64 0)]⟩
def E6:Ent:=⟨350,[.d (.list [.int .i64 0,.int .i64 1,.int .i64 2]),.bf 351 [.agg [.d (.int .i64 1),.d (d2),.d (d7),.sl 0 1 0 3 3 false]]],[.live (.dat 1 [.int .i64 1,.int .i64 3,.int .i64 14] true)],.d (.int .i64 0)⟩
def E7:Ent:=⟨166,[.d (.int .i64 1),.d (d2),.d (d9),.sl 0 1 0 1 1 true,.d (.int .i64 0)],[.live (.dat 1 [.int .i64 6] true)],.tup [.d (.list [.int .i64 0]),.d (.int .i64 0)]⟩
def E8:Ent:=⟨207,[.agg [.fn 292 [],.fn 293 []],.sl 0 3 0 3 3 false,.d (.int .i64 1)],[.live (.dat 3 [.agg [.int .i64 1,.int .i64 1,.int .i64 1],.agg [.int .i64 2,.int .i64 1,.int .i64 3],.agg [.int .i64 3,.int .i64 1,.int .i64 14]] true)],.d (.list [.agg [.int .i64 1,.int .i64 1,.int .i64 1]])⟩
def E9:Ent:=⟨207,[.agg [.fn 292 [],.fn 293 []],.sl 0 3 0 2 2 false,.d (.int .i64 1)],[.live (.dat 3 [.agg [.int .i64 2,.int .i64 1,.int .i64 3],.agg [.int .i64 3,.int .i64 1,.int .i64 14]] true)],.d (.list [.agg [.int .i64 2,.int .i64 1,.int .i64 3]])⟩
def E10:Ent:=⟨328,[.d (.int .i64 1),.d (.list [.list [.int .i64 5]])],[],.d (.bool true)⟩
def E11:Ent:=⟨197,[.agg [.d (.int .i64 3),.d (.list [.int .i64 5]),.d (.list [.int .i64 20]),.sl 0 2 0 1 1 false,.d (.int .i64 0),.d (.int .i64 0),.d (.int .i64 1048577),.d (.int .i64 1),.d (.int .i64 1),.nil]],[.live (.dat 2 [.agg [.int .i64 0,.int .i64 15]] true)],.d (d10)⟩
def E12:Ent:=⟨197,[.d (.agg [.int .i64 3,.list [.int .i64 5],.list [.int .i64 20],.list [.agg [.int .i64 0,.int .i64 15]],.int .i64 0,.int .i64 0,.int .i64 1048577,.int .i64 1,.int .i64 1,.list []])],[],.d (d10)⟩
def E13:Ent:=⟨432,[.d (d10),.d (d10)],[],.d (.bool true)⟩
def E14:Ent:=⟨181,[.agg [.d (.int .i64 1),.d (.int .i64 1),.nil],.d (.list [.list [.int .i64 5]]),.d (.agg [.int .i64 3,.list [.int .i64 5],.list [.int .i64 20],.list [.agg [.int .i64 0,.int .i64 15]],.int .i64 0,.int .i64 0,.int .i64 1048577,.int .i64 1,.int .i64 1,.list [],.bool false,.int .u8 0,.int .u8 0,.int .u8 0,.int .u8 0,.int .u8 0,.int .u8 0,.int .u8 0,.int .u8 0,.int .u8 0,.int .u8 0,.int .u8 0,.int .u8 0,.int .u8 0,.int .u8 0,.int .u8 0,.int .u8 0,.list [],d11])],[],.d (.bool true)⟩
def E15:Ent:=qcH [14,30,20,2,2,2,0,0,130,128,128,1,2,2,10,0,0,128,0,0,0,0,0,0,0,0,0,0,0,0,0,0,0,0,0,0,0,0,0,0,0,0,0,0,0,0,0,0,0,0,0,0,0,0,0,0,0,0,0,0,0,0,0,136] [2419430739,1713599971,2658923999,2646955930,3569197060,168689261,4027951403,141601783]
def E16:Ent:=⟨48,[.d (.int .i64 14),.sl 0 1 0 1 1 true],[.live (.dat 1 [st [20,2,2,2,0,0,130,128,128,1,2,2,10,0,0]] true)],.d (.agg (isD .u8 [144,53,149,83,102,35,117,227,158,123,245,223,157,197,87,154]))⟩
def E17:Ent:=qcH [14,30,20,4,2,2,0,0,130,128,128,1,2,2,18,0,0,128,0,0,0,0,0,0,0,0,0,0,0,0,0,0,0,0,0,0,0,0,0,0,0,0,0,0,0,0,0,0,0,0,0,0,0,0,0,0,0,0,0,0,0,0,0,136] [363100642,1638140739,869824406,1105913352,1175910438,664062284,388530322,2909800034]
def E18:Ent:=⟨48,[.d (.int .i64 14),.sl 0 1 0 1 1 true],[.live (.dat 1 [st [20,4,2,2,0,0,130,128,128,1,2,2,18,0,0]] true)],.d (.agg (isD .u8 [21,164,121,226,97,164,11,67,51,216,119,150,65,234,230,8]))⟩
def E19:Ent:=qcH [14,30,20,6,2,2,0,0,130,128,128,1,2,2,40,0,0,128,0,0,0,0,0,0,0,0,0,0,0,0,0,0,0,0,0,0,0,0,0,0,0,0,0,0,0,0,0,0,0,0,0,0,0,0,0,0,0,0,0,0,0,0,0,136] [1015196588,3921850446,3494007286,514187537,438594680,1819645359,2378325617,2363320595]
def E20:Ent:=⟨48,[.d (.int .i64 14),.sl 0 1 0 1 1 true],[.live (.dat 1 [st [20,6,2,2,0,0,130,128,128,1,2,2,40,0,0]] true)],.d (.agg (isD .u8 [60,130,171,172,233,194,176,78,208,66,81,246,30,165,225,17]))⟩
def E21:Ent:=qcH [26,32,144,53,149,83,102,35,117,227,158,123,245,223,157,197,87,154,32,21,164,121,226,97,164,11,67,51,216,119,150,65,234,230,8,32,60,130,171,172,233,194,176,78,208,66,81,246,30,165,225,17,128,0,0,0,0,0,0,0,0,0,1,160] [2644925963,1403904551,3892945174,3220864917,3823224883,1890630038,2167372282,3174321435]
def E22:Ent:=⟨48,[.d (.int .i64 26),.sl 0 1 0 3 3 false],[.live (.dat 1 [st [144,53,149,83,102,35,117,227,158,123,245,223,157,197,87,154],st [21,164,121,226,97,164,11,67,51,216,119,150,65,234,230,8],st [60,130,171,172,233,194,176,78,208,66,81,246,30,165,225,17]] true)],.d (d8)⟩
def E23:Ent:=⟨119,[.d (.agg [.int .i64 3,.list [.int .i64 5],.list [.int .i64 20],.list [.agg [.int .i64 0,.int .i64 15]],.int .i64 0,.int .i64 0,.int .i64 1048577,.int .i64 1,.int .i64 1,.list [],.list [],d11])],[],.d (d8)⟩
def E24:Ent:=qcH [25,38,28,6,0,0,130,128,128,1,2,2,2,10,2,40,2,0,30,0,0,32,157,166,94,11,83,173,226,39,232,9,161,22,191,250,127,149,128,0,0,0,0,0,0,0,0,0,0,0,0,0,0,0,0,0,0,0,0,0,0,0,1,48] [2286905017,3681456519,2010603728,3394124285,2499693683,4210936151,831188465,1287656521]
def E25:Ent:=⟨48,[.d (.int .i64 25),.sl 0 1 0 2 2 true],[.live (.dat 1 [st [28,6,0,0,130,128,128,1,2,2,2,10,2,40,2,0,30,0,0],st [157,166,94,11,83,173,226,39,232,9,161,22,191,250,127,149]] true)],.d (.agg (isD .u8 [136,79,102,185,219,110,145,135,119,215,96,208,202,78,57,253]))⟩
def E26:Ent:=⟨93,[.d (d9),.d (d9)],[],.d (.bool true)⟩
def T0:List Ent:=[]
def T1:List Ent:=E0::T0
def T2:List Ent:=E1::T1
def T3:List Ent:=E2::T2
def T4:List Ent:=E3::T3
def T5:List Ent:=E4::T4
def T6:List Ent:=E5::T5
def T7:List Ent:=E6::T6
def T8:List Ent:=E7::T7
def T9:List Ent:=E8::T8
def T10:List Ent:=E9::T9
def T11:List Ent:=E10::T10
def T12:List Ent:=E11::T11
def T13:List Ent:=E12::T12
def T14:List Ent:=E13::T13
def T15:List Ent:=E14::T14
def T16:List Ent:=E15::T15
def T17:List Ent:=E16::T16
def T18:List Ent:=E17::T17
def T19:List Ent:=E18::T18
def T20:List Ent:=E19::T19
def T21:List Ent:=E20::T20
def T22:List Ent:=E21::T21
def T23:List Ent:=E22::T22
def T24:List Ent:=E23::T23
def T25:List Ent:=E24::T24
def T26:List Ent:=E25::T25
def T27:List Ent:=E26::T26
def spl (n:Nat):Nat:=match Nat.ble n 2,Nat.ble n 4,Nat.ble n 8,Nat.ble n 16,Nat.ble n 32 with
 | true,_,_,_,_=>1|_,true,_,_,_=>2|_,_,true,_,_=>4|_,_,_,true,_=>8|_,_,_,_,true=>16|_,_,_,_,_=>32
theorem qhV {n:Nat} (h:2≤n) (h2:n≤60):1≤spl n∧spl n<n:=by
 have:∀n:_root_.Fin 61,2≤n.1→1≤spl n.1∧spl n.1<n.1:=by decide
 exact this ⟨n,by omega⟩ h
def okS (g n:Nat):Bool:=match ((bs []).cfg 13).RC g [I n] []with
 | some (.d (.int .i64 m))=>decide (m=(spl n:Int))|_=>false
theorem qvx {g n:Nat} (h:okS g n=true):RCs PP g [I n] [] (I (spl n)):=by
 have e:Run [] ⟨g,[I n],[],I (spl n)⟩:=by
  unfold okS at h;unfold Run;split at h
  ·rename_i m hm;rw[hm,of_decide_eq_true h]
  ·cases h
 exact(Jv e qqP) _ qTR
theorem okP:((List.range 59).all fun n=>okS 112 (n+2))=true:=by kernel_rfl
theorem okR:((List.range 59).all fun n=>okS 55 (n+2))=true:=by kernel_rfl
theorem qvy {n:Nat} (h:2≤n) (h2:n≤60):RCs PP 112 [I n] [] (I (spl n)):=qvx (by
 have:=qTI.1 okP (n - 2) (qU2.2 (by omega));rwa[show n - 2+2=n by omega]at this)
theorem qEH {n:Nat} (h:2≤n) (h2:n≤60):RCs PP 55 [I n] [] (I (spl n)):=qvx (by
 have:=qTI.1 okR (n - 2) (qU2.2 (by omega));rwa[show n - 2+2=n by omega]at this)
end Go.Aev.S29
end
