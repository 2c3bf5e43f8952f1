/- Lemmas for the statements of this seat: an abstract machine that the model follows, and contracts of functions. Conditions: none. -/
import Derived.Test.YtjchifhnckdnaaaGreatDoorProg
import Derived.Test.YtjchifhnckdnaaaGreatDoorA19
import Derived.Test.YtjchifhnckdnaaaGreatDoorA00
set_option linter.unusedVariables false
set_option linter.unusedSimpArgs false
set_option linter.unusedSectionVars false
section
namespace Go.Aev.M44
def consts:List Nat:=[1116352408,1899447441,3049323471,3921009573,961987163,1508970993,2453635748,2870763221,3624381080,310598401,607225278,1426881987,1925078388,2162078206,2614888103,3248222580,3835390401,4022224774,264347078,604807628,770255983,1249150122,1555081692,1996064986,2554220882,2821834349,2952996808,3210313671,3336571891,3584528711,113926993,338241895,666307205,773529912,1294757372,1396182291,1695183700,1986661051,2177026350,2456956037,2730485921,2820302411,3259730800,3345764771,3516065817,3600352804,4094571909,275423344,430227734,506948616,659060556,883997877,958139571,1322822218,1537002063,1747873779,1955562222,2024104815,2227730452,2361852424,2428436474,2756734187,3204031479,3329325298]
instance globs:Glob:=⟨fun g=>match g with | 0=>some (.agg (consts.map fun (n:Nat)=>.int .u32 n)) | _=>none⟩
noncomputable def PP:Program:=Go.Proofs.Tryz.prog
noncomputable def mk (po:FuncId→Bool) (sRC:FuncId→List V→Aev.Rows→Option (List Prop × V)):SCfg:=mkBy PP po sRC
set_option maxRecDepth 1000000 in
theorem names:(PP.funcs.toList.all fun f=>!(f.name == "runtime.NumGoroutine")) = true:=by kernel_rfl
theorem mixed:PP.follows .mixedOrders = true:=by kernel_rfl
theorem mk_ok {po:FuncId→Bool} {sRC:FuncId→List V→Aev.Rows→Option (List Prop × V)} (ht:TableOK (mk po sRC)):COK (mk po sRC).cfg:=mkBy_ok names mixed ht
noncomputable def c0:SCfg:=mk (fun _=>true) (fun _ _ _=>none)
theorem c0_ok:COK c0.cfg:=mk_ok (fun g args rows ps v h=>by cases h)
end Go.Aev.M44
end
section
set_option maxRecDepth 1000000
set_option linter.unusedVariables false
namespace Go.Aev.M44
open Go Go.Aev
noncomputable def td80:List AItem:=(nextOf (sTo c0 (hints []) anyLoop 300 (start c0 80 [LB []] []))).fr.todo
noncomputable def H80 (b:List UInt8) (z k:Int):AS:=hd 80 td80 53 [(0,LB b),(5,U64 z),(6,I 0),(9,LB b),(10,I (bytesL b).length),(11,I k)] []
def if24 (s:AS):Bool:=match s.fr.todo with
 | .it (.inRegion _ []) :: .it (.code (.cond (.tmp 24) .skip _)) :: _=>false
 | .it (.inRegion _ []) :: .it (.code (.cond (.tmp 24) _ _)) :: _=>true
 | _=>false
noncomputable def td80c:List AItem:=(nextOf (sTo c0 (hints []) if24 300 (H80 [1,1] 0 1))).fr.todo
noncomputable def C80 (b:List UInt8) (z k c:Int) (x:Bool):AS:=hd 80 td80c 53 [(0,LB b),(5,U64 z),(6,I 0),(7,I k),(8,U8 c),(9,LB b),(10,I (bytesL b).length),(11,I k),(24,B x)] []
end Go.Aev.M44
namespace Go.Aev.M44
theorem get_0_ {b:List UInt8} {Q:V→Aev.Rows→Prop} (hp:AllP []) (h:Ends c0 0 (hd 80 td80 53 [(0,V.d (D.list (bytesL b))),(5,U64 0),(6,I 0),(9,V.d (D.list (bytesL b))),(10,I (↑(List.length (bytesL b)):Int)),(11,I 0)] []) Q):Ends c0 0 (start c0 80 [LB b] []) Q :=
 Ends.turn c0_ok (hints [] [] [] 0 false true) anyLoop 140 [] [0,5,6,9,10,11] (by kernel_rfl) hp h
theorem get_a_ttt {b:List UInt8} {z k:Int} {Q:V→Aev.Rows→Prop} (hp:AllP [decide (k < (↑(List.length (bytesL b)):Int)) = true,(0:Int) ≤ k∧k < (↑(List.length (bytesL b)):Int),(bytesL b)[Int.toNat k]? = some (D.int IntKind.u8 (↑(UInt8.toNat (List.getD b (Int.toNat k) (0:UInt8))):Int)),1 = 1,(k == (9:Int)) = true,(k == (9:Int)) = true,(k == (9:Int)) = true,decide ((↑(UInt8.toNat (List.getD b (Int.toNat k) (0:UInt8))):Int) > (1:Int)) = true,decide ((↑(UInt8.toNat (List.getD b (Int.toNat k) (0:UInt8))):Int) > (1:Int)) = true]) (h:Q (V.tup [I 0,I 0,I 11]) ([])):Ends c0 0 (H80 b z k) Q :=
 Ends.toFin c0_ok (hints [(12,true),(27,true),(24,true)] [(9,elB (b))] [] 0 false true) if24 140 (by kernel_rfl) hp h
theorem get_a_ttft {b:List UInt8} {z k:Int} {Q:V→Aev.Rows→Prop} (hp:AllP [decide (k < (↑(List.length (bytesL b)):Int)) = true,(0:Int) ≤ k∧k < (↑(List.length (bytesL b)):Int),(bytesL b)[Int.toNat k]? = some (D.int IntKind.u8 (↑(UInt8.toNat (List.getD b (Int.toNat k) (0:UInt8))):Int)),1 = 1,(k == (9:Int)) = true,(k == (9:Int)) = true,(k == (9:Int)) = true,decide ((↑(UInt8.toNat (List.getD b (Int.toNat k) (0:UInt8))):Int) > (1:Int)) = false,decide (k > (0:Int)) = true,decide (k > (0:Int)) = true,decide (k > (0:Int)) = true]) (h:Ends c0 0 (hd 80 td80c 53 [(0,V.d (D.list (bytesL b))),(5,U64 z),(6,I 0),(7,I k),(8,U8 (↑(UInt8.toNat (List.getD b (Int.toNat k) (0:UInt8))):Int)),(9,V.d (D.list (bytesL b))),(10,I (↑(List.length (bytesL b)):Int)),(11,I k),(24,V.d (D.bool ((↑(UInt8.toNat (List.getD b (Int.toNat k) (0:UInt8))):Int) == (0:Int))))] []) Q):Ends c0 0 (H80 b z k) Q :=
  Ends.turn c0_ok (hints [(12,true),(27,true),(24,false),(33,true)] [(9,elB (b))] [] 0 false true) if24 140 [] [0,
 5,
 6,
 7,
 8,
 9,
 10,
 11,
 24] (by kernel_rfl) hp h
theorem get_a_tft {b:List UInt8} {z k:Int} {Q:V→Aev.Rows→Prop} (hp:AllP [decide (k < (↑(List.length (bytesL b)):Int)) = true,(0:Int) ≤ k∧k < (↑(List.length (bytesL b)):Int),(bytesL b)[Int.toNat k]? = some (D.int IntKind.u8 (↑(UInt8.toNat (List.getD b (Int.toNat k) (0:UInt8))):Int)),1 = 1,(k == (9:Int)) = false,(k == (9:Int)) = false,(k == (9:Int)) = false,decide (k > (0:Int)) = true,decide (k > (0:Int)) = true,decide (k > (0:Int)) = true]) (h:Ends c0 0 (hd 80 td80c 53 [(0,V.d (D.list (bytesL b))),(5,U64 z),(6,I 0),(7,I k),(8,U8 (↑(UInt8.toNat (List.getD b (Int.toNat k) (0:UInt8))):Int)),(9,V.d (D.list (bytesL b))),(10,I (↑(List.length (bytesL b)):Int)),(11,I k),(24,V.d (D.bool ((↑(UInt8.toNat (List.getD b (Int.toNat k) (0:UInt8))):Int) == (0:Int))))] []) Q):Ends c0 0 (H80 b z k) Q :=
  Ends.turn c0_ok (hints [(12,true),(27,false),(33,true)] [(9,elB (b))] [] 0 false true) if24 140 [] [0,
 5,
 6,
 7,
 8,
 9,
 10,
 11,
 24] (by kernel_rfl) hp h
theorem get_a_tff {b:List UInt8} {z k:Int} {Q:V→Aev.Rows→Prop} (hp:AllP [decide (k < (↑(List.length (bytesL b)):Int)) = true,(0:Int) ≤ k∧k < (↑(List.length (bytesL b)):Int),(bytesL b)[Int.toNat k]? = some (D.int IntKind.u8 (↑(UInt8.toNat (List.getD b (Int.toNat k) (0:UInt8))):Int)),1 = 1,(k == (9:Int)) = false,(k == (9:Int)) = false,(k == (9:Int)) = false,decide (k > (0:Int)) = false,decide (k > (0:Int)) = false,decide (k > (0:Int)) = false]) (h:Ends c0 0 (hd 80 td80c 53 [(0,V.d (D.list (bytesL b))),(5,U64 z),(6,I 0),(7,I k),(8,U8 (↑(UInt8.toNat (List.getD b (Int.toNat k) (0:UInt8))):Int)),(9,V.d (D.list (bytesL b))),(10,I (↑(List.length (bytesL b)):Int)),(11,I k),(24,V.d (D.bool false))] []) Q):Ends c0 0 (H80 b z k) Q :=
  Ends.turn c0_ok (hints [(12,true),(27,false),(33,false)] [(9,elB (b))] [] 0 false true) if24 140 [] [0,
 5,
 6,
 7,
 8,
 9,
 10,
 11,
 24] (by kernel_rfl) hp h
theorem get_a_f {b:List UInt8} {z k:Int} {Q:V→Aev.Rows→Prop} (hp:AllP [decide (k < (↑(List.length (bytesL b)):Int)) = false]) (h:Q (V.tup [I 0,I 0,I 10]) ([])):Ends c0 0 (H80 b z k) Q :=
 Ends.toFin c0_ok (hints [(12,false)] [] [] 0 false true) if24 140 (by kernel_rfl) hp h
theorem get_c_t {b:List UInt8} {z k c:Int} {x:Bool} {Q:V→Aev.Rows→Prop} (hp:AllP [x = true]) (h:Q (V.tup [I 0,I 0,I 11]) ([])):Ends c0 0 (C80 b z k c x) Q :=
 Ends.toFin c0_ok (hints [(24,true)] [] [] 0 false true) anyLoop 140 (by kernel_rfl) hp h
theorem get_c_ftf {b:List UInt8} {z k c:Int} {x:Bool} {Q:V→Aev.Rows→Prop} (hp:AllP [x = false,inInt ((7:Int) * k),(0:Int) ≤ (7:Int) * k,decide (c < (128:Int)) = true,inInt (k + (1:Int)),(k + (1:Int) == (0:Int)) = false,(0:Int) ≤ (1:Int)]) (h:Q (V.tup [I (IntKind.wrap IntKind.i64 (↑(BitVec.toNat (BitVec.ofInt (64) (IntKind.wrap IntKind.i64 (Int.fdiv (IntKind.wrap IntKind.u64 (↑(BitVec.toNat (BitVec.ofInt (64) z ||| BitVec.ofInt (64) (IntKind.wrap IntKind.u64 (IntKind.wrap IntKind.u64 (IntKind.wrap IntKind.u8 (↑(BitVec.toNat (BitVec.ofInt (8) c &&& BitVec.ofInt (8) (127:Int))):Int)) * (2:Int) ^ min (Int.toNat ((7:Int) * k)) (64))))):Int)) ((2:Int) ^ 1))) ^^^ BitVec.ofInt (64) (IntKind.wrap IntKind.i64 ((0:Int) - IntKind.wrap IntKind.i64 (IntKind.wrap IntKind.u64 (↑(BitVec.toNat (BitVec.ofInt (64) (IntKind.wrap IntKind.u64 (↑(BitVec.toNat (BitVec.ofInt (64) z ||| BitVec.ofInt (64) (IntKind.wrap IntKind.u64 (IntKind.wrap IntKind.u64 (IntKind.wrap IntKind.u8 (↑(BitVec.toNat (BitVec.ofInt (8) c &&& BitVec.ofInt (8) (127:Int))):Int)) * (2:Int) ^ min (Int.toNat ((7:Int) * k)) (64))))):Int)) &&& BitVec.ofInt (64) (1:Int))):Int)))))):Int)),I (k + (1:Int)),I 0]) ([])):Ends c0 0 (C80 b z k c x) Q :=
 Ends.toFin c0_ok (hints [(24,false),(38,true),(43,false)] [] [] 0 false true) anyLoop 140 (by kernel_rfl) hp h
theorem get_c_ff {b:List UInt8} {z k c:Int} {x:Bool} {Q:V→Aev.Rows→Prop} (hp:AllP [x = false,inInt ((7:Int) * k),(0:Int) ≤ (7:Int) * k,decide (c < (128:Int)) = false,inInt (k + (1:Int))]) (h:Ends c0 0 (hd 80 td80 53 [(0,V.d (D.list (bytesL b))),(5,U64 (IntKind.wrap IntKind.u64 (↑(BitVec.toNat (BitVec.ofInt (64) z ||| BitVec.ofInt (64) (IntKind.wrap IntKind.u64 (IntKind.wrap IntKind.u64 (IntKind.wrap IntKind.u8 (↑(BitVec.toNat (BitVec.ofInt (8) c &&& BitVec.ofInt (8) (127:Int))):Int)) * (2:Int) ^ min (Int.toNat ((7:Int) * k)) (64))))):Int))),(6,I 0),(9,V.d (D.list (bytesL b))),(10,I (↑(List.length (bytesL b)):Int)),(11,I (k + (1:Int)))] []) Q):Ends c0 0 (C80 b z k c x) Q :=
  Ends.turn c0_ok (hints [(24,false),(38,false)] [] [] 0 false true) anyLoop 140 [] [0,
 5,
 6,
 9,
 10,
 11] (by kernel_rfl) hp h
end Go.Aev.M44
end
section
set_option maxRecDepth 1000000
set_option linter.unusedVariables false
namespace Go.Aev.M44
noncomputable def td90:List AItem:=(nextOf (sTo c0 (hints []) anyLoop 300 (start c0 90 [I 0] []))).fr.todo
noncomputable def H90 (z:Int) (v:V) (rows:Aev.Rows):AS:=hd 90 td90 27 [(3,U64 z),(4,v)] rows
noncomputable def td93:List AItem:=(nextOf (sTo c0 (hints [(9,false)]) anyLoop 300 (start c0 93 [I 0] []))).fr.todo
noncomputable def H93 (z:Int) (v:V) (rows:Aev.Rows):AS:=hd 93 td93 31 [(3,U64 z),(4,v)] rows
def outV (l:List UInt8):V:=.sl 0 1 0 l.length l.length false
def outR (l:List UInt8):Aev.Rows:=[.live (.dat 1 (bytesL l) false)]
end Go.Aev.M44
namespace Go.Aev.M44
theorem int_0_ {n:Int} {Q:V→Aev.Rows→Prop} (hp:AllP [(0:Int) ≤ (1:Int),(0:Int) ≤ (63:Int)]) (h:Ends c0 0 (hd 90 td90 27 [(3,U64 (IntKind.wrap IntKind.u64 (↑(BitVec.toNat (BitVec.ofInt (64) (IntKind.wrap IntKind.u64 (IntKind.wrap IntKind.u64 n * (2:Int) ^ 1)) ^^^ BitVec.ofInt (64) (IntKind.wrap IntKind.u64 (Int.fdiv n ((2:Int) ^ 63))))):Int))),(4,V.nil)] []) Q):Ends c0 0 (start c0 90 [I n] []) Q :=
 Ends.turn c0_ok (hints [] [] [] 0 false true) anyLoop 300 [] [3,4] (by kernel_rfl) hp h
theorem int_n_t {z:Int} {Q:V→Aev.Rows→Prop} (hp:AllP [decide (z > (127:Int)) = true,(0:Int) ≤ (7:Int)]) (h:Ends c0 0 (hd 90 td90 27 [(3,U64 (Int.fdiv z ((2:Int) ^ 7))),(4,V.sl (0) (1) (0) (1) (1) false)] [Slot.live (Row.dat (1) [D.int IntKind.u8 (IntKind.wrap IntKind.u8 (↑(BitVec.toNat (BitVec.ofInt (8) (IntKind.wrap IntKind.u8 z) ||| BitVec.ofInt (8) (128:Int))):Int))] false)]) Q):Ends c0 0 (H90 z .nil []) Q :=
 Ends.turn c0_ok (hints [(13,true)] [] [] 0 false true) anyLoop 300 [1] [3,4] (by kernel_rfl) hp h
theorem int_n_f {z:Int} {Q:V→Aev.Rows→Prop} (hp:AllP [decide (z > (127:Int)) = false]) (h:Q (V.sl (1) (1) (0) (1) (1) false) ([Slot.live (Row.dat (1) [D.int IntKind.u8 (IntKind.wrap IntKind.u8 z)] false),Slot.live (Row.dat (1) [D.int IntKind.u8 (IntKind.wrap IntKind.u8 z)] false)])):Ends c0 0 (H90 z .nil []) Q :=
 Ends.toFin c0_ok (hints [(13,false)] [] [] 0 false true) anyLoop 300 (by kernel_rfl) hp h
theorem int_s_t {z:Int} {l:List UInt8} {Q:V→Aev.Rows→Prop} (hp:AllP [decide (z > (127:Int)) = true,1 = 1∧1 = 1∧1 ≤ 1,0 < 1∧1 ≠ 0∧1 = 1∧1 = 1∧0 + List.length l ≤ List.length (bytesL l)∧¬List.length l + 1 ≤ List.length l∧2 * (List.length l + 1) * 1 ≤ 281474976710656∧List.length l + 1 ≤ 4611686018427387904,(0:Int) ≤ (7:Int)]) (h:Ends c0 0 (hd 90 td90 27 [(3,U64 (Int.fdiv z ((2:Int) ^ 7))),(4,V.sl (0) (1) (0) (List.length l + 1) (List.length l + 1) false)] [Slot.live (Row.dat (1) (List.take l.length (List.drop (0) (bytesL l)) ++ [D.int IntKind.u8 (IntKind.wrap IntKind.u8 (↑(BitVec.toNat (BitVec.ofInt (8) (IntKind.wrap IntKind.u8 z) ||| BitVec.ofInt (8) (128:Int))):Int))]) false)]) Q):Ends c0 0 (H90 z (outV l) (outR l)) Q :=
 Ends.turn c0_ok (hints [(13,true)] [] [] 1 false true) anyLoop 300 [2] [3,4] (by kernel_rfl) hp h
theorem int_s_f {z:Int} {l:List UInt8} {Q:V→Aev.Rows→Prop} (hp:AllP [decide (z > (127:Int)) = false,1 = 1∧1 = 1∧1 ≤ 1,0 < 1∧1 ≠ 0∧1 = 1∧1 = 1∧0 + List.length l ≤ List.length (bytesL l)∧¬List.length l + 1 ≤ List.length l∧2 * (List.length l + 1) * 1 ≤ 281474976710656∧List.length l + 1 ≤ 4611686018427387904]) (h:Q (V.sl (2) (1) (0) (List.length l + 1) (List.length l + 1) false) ([Slot.dead,Slot.live (Row.dat (1) [D.int IntKind.u8 (IntKind.wrap IntKind.u8 z)] false),Slot.live (Row.dat (1) (List.take l.length (List.drop (0) (bytesL l)) ++ [D.int IntKind.u8 (IntKind.wrap IntKind.u8 z)]) false)])):Ends c0 0 (H90 z (outV l) (outR l)) Q :=
 Ends.toFin c0_ok (hints [(13,false)] [] [] 1 false true) anyLoop 300 (by kernel_rfl) hp h
theorem rnt_0_t {n:Int} {Q:V→Aev.Rows→Prop} (hp:AllP [decide (n < (0:Int)) = true,inInt ((-1:Int) - n)]) (h:Ends c0 0 (hd 93 td93 31 [(3,U64 (IntKind.wrap IntKind.u64 (IntKind.wrap IntKind.u64 (IntKind.wrap IntKind.u64 ((-1:Int) - n) * (2:Int)) + (1:Int)))),(4,V.nil)] []) Q):Ends c0 0 (start c0 93 [I n] []) Q :=
 Ends.turn c0_ok (hints [(9,true)] [] [] 0 false true) anyLoop 300 [] [3,4] (by kernel_rfl) hp h
theorem rnt_0_f {n:Int} {Q:V→Aev.Rows→Prop} (hp:AllP [decide (n < (0:Int)) = false]) (h:Ends c0 0 (hd 93 td93 31 [(3,U64 (IntKind.wrap IntKind.u64 (IntKind.wrap IntKind.u64 n * (2:Int)))),(4,V.nil)] []) Q):Ends c0 0 (start c0 93 [I n] []) Q :=
 Ends.turn c0_ok (hints [(9,false)] [] [] 0 false true) anyLoop 300 [] [3,4] (by kernel_rfl) hp h
theorem rnt_n_t {z:Int} {Q:V→Aev.Rows→Prop} (hp:AllP [decide (z ≥ (128:Int)) = true,IntKind.u64 = IntKind.u64,(128:Int) ≠ (0:Int),IntKind.u64 = IntKind.u64,(128:Int) ≠ (0:Int)]) (h:Ends c0 0 (hd 93 td93 31 [(3,U64 (IntKind.wrap IntKind.u64 (Int.tdiv z (128:Int)))),(4,V.sl (0) (1) (0) (1) (1) false)] [Slot.live (Row.dat (1) [D.int IntKind.u8 (IntKind.wrap IntKind.u8 (IntKind.wrap IntKind.u8 (Int.tmod z (128:Int)) + (128:Int)))] false)]) Q):Ends c0 0 (H93 z .nil []) Q :=
 Ends.turn c0_ok (hints [(16,true)] [] [] 0 false true) anyLoop 300 [1] [3,4] (by kernel_rfl) hp h
theorem rnt_n_f {z:Int} {Q:V→Aev.Rows→Prop} (hp:AllP [decide (z ≥ (128:Int)) = false]) (h:Q (V.sl (1) (1) (0) (1) (1) false) ([Slot.live (Row.dat (1) [D.int IntKind.u8 (IntKind.wrap IntKind.u8 z)] false),Slot.live (Row.dat (1) [D.int IntKind.u8 (IntKind.wrap IntKind.u8 z)] false)])):Ends c0 0 (H93 z .nil []) Q :=
 Ends.toFin c0_ok (hints [(16,false)] [] [] 0 false true) anyLoop 300 (by kernel_rfl) hp h
theorem rnt_s_t {z:Int} {l:List UInt8} {Q:V→Aev.Rows→Prop} (hp:AllP [decide (z ≥ (128:Int)) = true,IntKind.u64 = IntKind.u64,(128:Int) ≠ (0:Int),1 = 1∧1 = 1∧1 ≤ 1,0 < 1∧1 ≠ 0∧1 = 1∧1 = 1∧0 + List.length l ≤ List.length (bytesL l)∧¬List.length l + 1 ≤ List.length l∧2 * (List.length l + 1) * 1 ≤ 281474976710656∧List.length l + 1 ≤ 4611686018427387904,IntKind.u64 = IntKind.u64,(128:Int) ≠ (0:Int)]) (h:Ends c0 0 (hd 93 td93 31 [(3,U64 (IntKind.wrap IntKind.u64 (Int.tdiv z (128:Int)))),(4,V.sl (0) (1) (0) (List.length l + 1) (List.length l + 1) false)] [Slot.live (Row.dat (1) (List.take l.length (List.drop (0) (bytesL l)) ++ [D.int IntKind.u8 (IntKind.wrap IntKind.u8 (IntKind.wrap IntKind.u8 (Int.tmod z (128:Int)) + (128:Int)))]) false)]) Q):Ends c0 0 (H93 z (outV l) (outR l)) Q :=
 Ends.turn c0_ok (hints [(16,true)] [] [] 1 false true) anyLoop 300 [2] [3,4] (by kernel_rfl) hp h
theorem rnt_s_f {z:Int} {l:List UInt8} {Q:V→Aev.Rows→Prop} (hp:AllP [decide (z ≥ (128:Int)) = false,1 = 1∧1 = 1∧1 ≤ 1,0 < 1∧1 ≠ 0∧1 = 1∧1 = 1∧0 + List.length l ≤ List.length (bytesL l)∧¬List.length l + 1 ≤ List.length l∧2 * (List.length l + 1) * 1 ≤ 281474976710656∧List.length l + 1 ≤ 4611686018427387904]) (h:Q (V.sl (2) (1) (0) (List.length l + 1) (List.length l + 1) false) ([Slot.dead,Slot.live (Row.dat (1) [D.int IntKind.u8 (IntKind.wrap IntKind.u8 z)] false),Slot.live (Row.dat (1) (List.take l.length (List.drop (0) (bytesL l)) ++ [D.int IntKind.u8 (IntKind.wrap IntKind.u8 z)]) false)])):Ends c0 0 (H93 z (outV l) (outR l)) Q :=
 Ends.toFin c0_ok (hints [(16,false)] [] [] 1 false true) anyLoop 300 (by kernel_rfl) hp h
end Go.Aev.M44
end
section
namespace Go.Aev
variable [Glob]
variable {w0:World} {own:Own} {m:Mp} {S:Nat→Prop} {w:World} {rows:Rows}
def joinM (n:Nat) (m m':Mp):Mp:=fun r=>if r < n then m r else m' (r - n)
theorem joinM_lt {n r:Nat} {m m':Mp} (h:r < n):joinM n m m' r = m r:=if_pos h
theorem joinM_ge {n r:Nat} {m m':Mp} (h:n ≤ r):joinM n m m' r = m' (r - n):=if_neg (by omega)
def shiftSlot (n:Nat):Slot→Option Slot
 | .live row=>match moveRow (fun j=>some (n + j)) (some row) with
  | some (.live row')=>some (.live row')
  | _=>none
 | _=>some .dead
def newAt (s:AS) (v:V) (rows2:Rows):Option AS :=
 match s.fr.todo with
 | .it (.inRegion ops (i :: rest)) :: k=>match ops[i]? with
  | some o=>match renV (fun j=>some (s.rows.length + j)) 8 v,mapO (shiftSlot s.rows.length) rows2 with
   | some v',some rows'=>some { s with fr:={ s.fr with env:=setTmp s.fr.env o.dst v',todo:=.it (.inRegion ops rest) :: k },rows:=s.rows ++ rows' }
   | _,_=>none
  | none=>none
 | _=>none
theorem shift_cases {n:Nat} {x y:Slot} (h:shiftSlot n x = some y):(∃ row row',x = .live row∧y = .live row'∧moveRow (fun j=>some (n + j)) (some row) = some (.live row')) ∨ y = .dead:=by
 unfold shiftSlot at h
 split at h
 ·split at h
  ·rename_i row _ row' hm
   cases h
   exact .inl ⟨_,_,rfl,rfl,hm⟩
  ·cases h
 ·cases h; exact .inr rfl
theorem new_inv (inv:Inv w0 own m S w rows) {ow:Own} (ho:∀ b,¬ ow b) (hst:∀ b,ow.st b→S b) (hst2:∀ b,S b→ow.st b) {rows2 rows3:Rows} {m':Mp} {S':Nat→Prop} {w':World}
  (i2:Inv w ow m' S' w' rows2) (hsz:∀ b,bsize w b ≤ bsize w' b) (hb:mapO (shiftSlot rows.length) rows2 = some rows3) :
  Inv w0 own (joinM rows.length m m') S' w' (rows ++ rows3)∧Ext m S w (joinM rows.length m m') S' w':=by
 have hlen:=mapO_len hb
 have heapS:∀ b,b < w.heap.size→w'.heap[b]? = w.heap[b]?:=fun b h=>i2.kept b h (ho b)
 have mlt:∀ {r p},m r = some p→r < rows.length:=fun {r p} h=>by
  rcases Nat.lt_or_ge r rows.length with h1 | h1
  ·exact h1
  ·rw [inv.none r h1] at h; cases h
 have ext:Ext m S w (joinM rows.length m m') S' w' :=
  ⟨fun r p e=>by rw [joinM_lt (mlt e)]; exact e,fun b hb=>i2.stb b (hst2 b hb),fun b hb=>heapS b (inv.sbnd b hb),hsz⟩
 -- what stands at a place
 have at3:∀ (r:Nat) (x:Slot),(rows ++ rows3)[r]? = some x→(r < rows.length∧rows[r]? = some x) ∨ (rows.length ≤ r∧((∃ row row',rows2[r - rows.length]? = some (Slot.live row)∧x = .live row'∧moveRow (fun j=>some (rows.length + j)) (some row) = some (.live row')) ∨ x = .dead)):=by
  intro r x hx
  rcases Nat.lt_or_ge r rows.length with h1 | h1
  ·left; rw [List.getElem?_append_left h1] at hx; exact ⟨h1,hx⟩
  ·right
   rw [List.getElem?_append_right h1] at hx
   obtain ⟨y,hy,hs⟩:=mapO_get hb hx
   refine ⟨h1,?_⟩
   rcases shift_cases hs with ⟨row,row',e1,e2,e3⟩ | e
   ·exact .inl ⟨row,row',by rw [hy,e1],e2,e3⟩
   ·exact .inr e
 have hmv:∀ r j,(fun j=>some (rows.length + j)) r = some j→(joinM rows.length m m') j = m' r:=by
  intro r j e
  cases e
  rw [joinM_ge (by omega)]; congr 1; omega
 have hmove:∀ (b o:Nat) (row row':Row),moveRow (fun j=>some (rows.length + j)) (some row) = some (.live row')→RowRel m' S' w' b o row→RowRel (joinM rows.length m m') S' w' b o row'∧row'.rw = row.rw :=
  fun b o row row' h1 h2=>moveRow_by hmv h1 h2
 have rwEq:∀ {r:Nat} {row row':Row},rows2[r - rows.length]? = some (Slot.live row)→moveRow (fun j=>some (rows.length + j)) (some row) = some (.live row')→row'.rw = row.rw:=fun {r row row'} h1 h2=>by
  obtain ⟨b1,o1,_,hrel⟩:=i2.row _ row h1
  exact (hmove b1 o1 row row' h2 hrel).2
 have oldS:∀ b,S' b→b < w.heap.size→S b:=fun b hb hl=>by
  rcases i2.base b hb with h3 | h3 | h3
  ·exact hst b h3
  ·omega
  ·exact absurd h3 (ho b)
 refine ⟨⟨fun r hr=>?_,fun r hr=>?_,fun r row hr=>?_,fun r b o hm=>?_,fun r row b o hr hw hm=>?_,
  fun r r' row row' b o b' o' hne hr hr' hw hm hmm=>?_,fun r row b o hr hw hm=>?_,fun r row b o hr hw hm=>?_,i2.sbnd,fun b hb=>?_,fun b hb=>i2.stb b (hst2 b (inv.stb b hb)),i2.os.trans inv.os,i2.tape.trans inv.tape,
  i2.output.trans inv.output,Nat.le_trans inv.grow i2.grow,fun b hb hn=>?_,i2.glb⟩,ext⟩
 ·rw [List.length_append] at hr
  rw [joinM_ge (by omega)]
  exact i2.none _ (by omega)
 ·rcases at3 r _ hr with ⟨h1,h2⟩ | ⟨h1,⟨_,_,_,h5,_⟩ | h5⟩
  ·rw [joinM_lt h1]; exact inv.fre r h2
  ·cases h5
  ·cases h5
 ·rcases at3 r _ hr with ⟨h1,h2⟩ | ⟨h1,⟨row0,row',e1,e2,e3⟩ | h5⟩
  ·obtain ⟨b,o,hm,hrel⟩:=inv.row r row h2
   exact ⟨b,o,by rw [joinM_lt h1]; exact hm,hrel.ext ext (heapS b (inv.bnd r b o hm))⟩
  ·cases e2
   obtain ⟨b,o,hm,hrel⟩:=i2.row _ row0 e1
   exact ⟨b,o,by rw [joinM_ge h1]; exact hm,(hmove b o row0 row e3 hrel).1⟩
  ·cases h5
 ·rcases Nat.lt_or_ge r rows.length with h1 | h1
  ·rw [joinM_lt h1] at hm; exact Nat.lt_of_lt_of_le (inv.bnd r b o hm) i2.grow
  ·rw [joinM_ge h1] at hm; exact i2.bnd _ b o hm
 ·rcases at3 r _ hr with ⟨h1,h2⟩ | ⟨h1,⟨row0,row',e1,e2,e3⟩ | h5⟩
  ·rw [joinM_lt h1] at hm; exact inv.new r row b o h2 hw hm
  ·cases e2
   rw [joinM_ge h1] at hm
   rcases i2.new _ row0 b o e1 (by rw [← rwEq e1 e3]; exact hw) hm with h3 | h3
   ·exact .inl (Nat.le_trans inv.grow h3)
   ·exact absurd h3 (ho b)
  ·cases h5
 ·rcases at3 r _ hr with ⟨a1,a2⟩ | ⟨a1,⟨row0,row1,e1,e2,e3⟩ | h5⟩ <;> rcases at3 r' _ hr' with ⟨c1,c2⟩ | ⟨c1,⟨row2,row3,f1,f2,f3⟩ | g5⟩
  ·rw [joinM_lt a1] at hm; rw [joinM_lt c1] at hmm
   exact inv.apart r r' row row' b o b' o' hne a2 c2 hw hm hmm
  ·cases f2
   rw [joinM_lt a1] at hm; rw [joinM_ge c1] at hmm
   intro e
   subst e
   have hlt:=inv.bnd r b o hm
   cases hrw:row'.rw with
   | true =>
    rcases i2.new _ row2 b o' f1 (by rw [← rwEq f1 f3]; exact hrw) hmm with h3 | h3
    ·omega
    ·exact ho b h3
   | false =>
    have hs:=i2.rost _ row2 b o' f1 (by rw [← rwEq f1 f3]; exact hrw) hmm
    exact inv.stab r row b o a2 hw hm (oldS b hs hlt)
  ·cases g5
  ·cases e2
   rw [joinM_ge a1] at hm; rw [joinM_lt c1] at hmm
   intro e
   subst e
   have hlt:=inv.bnd r' b o' hmm
   rcases i2.new _ row0 b o e1 (by rw [← rwEq e1 e3]; exact hw) hm with h3 | h3
   ·omega
   ·exact ho b h3
  ·cases e2; cases f2
   rw [joinM_ge a1] at hm; rw [joinM_ge c1] at hmm
   exact i2.apart _ _ row0 row2 b o b' o' (by omega) e1 f1 (by rw [← rwEq e1 e3]; exact hw) hm hmm
  ·cases g5
  ·cases h5
  ·cases h5
  ·cases h5
 ·rcases at3 r _ hr with ⟨h1,h2⟩ | ⟨h1,⟨row0,row',e1,e2,e3⟩ | h5⟩
  ·rw [joinM_lt h1] at hm
   intro hs
   exact inv.stab r row b o h2 hw hm (oldS b hs (inv.bnd r b o hm))
  ·cases e2
   rw [joinM_ge h1] at hm
   exact i2.stab _ row0 b o e1 (by rw [← rwEq e1 e3]; exact hw) hm
  ·cases h5
 ·rcases at3 r _ hr with ⟨h1,h2⟩ | ⟨h1,⟨row0,row',e1,e2,e3⟩ | h5⟩
  ·rw [joinM_lt h1] at hm; exact ext.sub b (inv.rost r row b o h2 hw hm)
  ·cases e2
   rw [joinM_ge h1] at hm
   exact i2.rost _ row0 b o e1 (by rw [← rwEq e1 e3]; exact hw) hm
  ·cases h5
 ·rcases i2.base b hb with h3 | h3 | h3
  ·exact inv.base b (hst b h3)
  ·exact .inr (.inl (Nat.le_trans inv.grow h3))
  ·exact absurd h3 (ho b)
 ·have hbw:b < w.heap.size:=Nat.lt_of_lt_of_le hb inv.grow
  rw [heapS b hbw]
  exact inv.kept b hb hn
theorem Ends.callN {c:SCfg} (hc:COK c.cfg) {k:Nat} {s:AS} {Q:V→Rows→Prop} {g:FuncId} {aZ:List V} (hat:callAt c.cfg s = some (g,aZ,[],[])) {R:V→Rows→Prop}
  (hd:Does c.P g 0 aZ [] R) (hk:∀ v rows',R v rows'→∃ s',newAt s v rows' = some s'∧Ends c k s' Q):Ends c k s Q:=by
 intro w0 own bt f M hb hs
 obtain ⟨hbf,m,S,w,tmps,todo,ds,ro,cs,rfl,inv,hfr,hst⟩:=hs
 have ht:=hfr.todo
 unfold callAt at hat
 split at hat
 ·rename_i ops i rest kk htodo
  rw [htodo] at ht
  cases ht with
  | cons hi tl =>
  rename_i kr
  cases hi
  split at hat
  ·rename_i o ho
   split at hat
   ·rename_i fo args hw hcv
    split at hat
    ·rename_i fv vs hf hvs
     split at hat
     ·rename_i g' aZ' hfa
      simp only at hat
      split at hat
      ·rename_i hcond
       simp only [Bool.and_eq_true,decide_eq_true_eq] at hcond
       split at hat
       ·rename_i asC rowsC' has hrows
        split at hat
        ·rename_i hlive
         injection hat with hat
         injection hat with hg hat
         injection hat with ha hat
         injection hat with hr hrs
         subst hg; subst ha; subst hr
         rw [hrs] at hrows has
         obtain ⟨asO,ats,hop,rfl⟩:=callView_spec hcv
         have hρ:=opRel_of (fn:=s.fr.fn) (todo:=.inRegion ops (i :: rest) :: kr) (ds:=ds) (ro:=ro) inv.glb hfr.env
         have hw':=wanted_rel hfr.env hw
         obtain ⟨fs,cs',hfe,hargs⟩:=fnArgs_rel hfa (hρ fo _ hf) (args_rel hρ hvs)
         obtain ⟨gf,h1,h2,h3⟩:=hc.rc _ hcond.1
         have hrun:=run_call (P:=c.P) (w:=w) hop hfe h1 h2 h3
         have hargs':RVs (renM m []) S w asC (fs ++ (asO.map (rfr s.fr.fn tmps (.inRegion ops (i :: rest) :: kr) ds ro).eval) ++ cs'):=by
          refine ⟨by rw [mapO_len has]; exact hargs.1,fun j x v hx hv=>?_⟩
          obtain ⟨y,hy,hren⟩:=mapO_get has hx
          exact renV_rel hren (hargs.2 j y v hy hv)
         obtain ⟨e,w',fr,⟨u,v,rows2,rfl,hR,m',S',i2,r2,_,hsz⟩,hcomes,hfn,hlv⟩:=hd w (callOwn m S s.rows []) _ S w _ (call_inv inv (rs:=[]) rfl hrows) hargs' (rfr s.fr.fn tmps (.inRegion ops (i :: rest) :: kr) ds ro :: cs)
         obtain ⟨s',hs',hE⟩:=hk v rows2 hR
         have hleave:=step_leave_returned (P:=c.P) (c:=rfr s.fr.fn tmps (.inRegion ops (i :: rest) :: kr) ds ro) (cs:=cs) hlv
         rw [finish_rfr ho] at hleave
         unfold newAt at hs'
         rw [htodo] at hs'
         simp only at hs'
         rw [ho] at hs'
         simp only at hs'
         split at hs'
         ·rename_i v' rows3 hv' hrows3
          cases hs'
          obtain ⟨i3,e3⟩:=new_inv inv (ow:=callOwn m S s.rows []) (fun b ⟨r,row,o,h,_⟩=>by cases h) (fun b h=>h) (fun b h=>h) i2 hsz hrows3
          have r3:RV (joinM s.rows.length m m') S' w' v' u:=renV_by (fun r j e=>by
           cases e
           rw [joinM_ge (by omega)]; congr 1; omega) hv' r2
          have hsim:SimF c.P w0 own bt f { s with fr:={ s.fr with env:=setTmp s.fr.env o.dst v',todo:=.it (.inRegion ops rest) :: kk },rows:=s.rows ++ rows3 } (lone (rfr s.fr.fn (putT tmps o.dst u) (.inRegion ops rest :: kr) ds ro) cs w'):=by
           refine ⟨?_,_,S',w',_,_,ds,ro,cs,rfl,i3,⟨putT_rel (hfr.env.ext e3) r3 o.dst,.cons rfl (tl.mono e3.map),hfr.ds.ext e3,hfr.ro.mono e3.map⟩,hst.ext e3⟩
           show botFn _ s.stack = f
           rw [botFn_eq] at hbf ⊢
           exact hbf
          obtain ⟨vE,rowsE,hQ,hF⟩:=hE w0 own bt f _ hb hsim
          exact ⟨vE,rowsE,hQ,hF.of_steps (Steps.head (m_enter ho hw' (isNotDefer hcv) hrun) (Steps.trans hcomes (.one hleave)))⟩
         ·cases hs'
        ·cases hat
       ·cases hat
      ·cases hat
     ·cases hat
    ·cases hat
   ·cases hat
  ·cases hat
 ·cases hat
end Go.Aev
namespace Go.Aev
variable [Glob]
theorem Does.sel {P:Program} {g:FuncId} {args:List V} {rows:Rows} {R R0:V→Rows→Prop} (h:Does P g 0 args rows R)
  (hs:∀ v rows',R v rows'→∃ rs v0 rows0,rs.eraseDups.length = rs.length∧mapO (fun r=>moveRow (fun r=>idxIn r rs 0) (liveAt rows' r)) rs = some rows0∧renV (fun r=>idxIn r rs 0) 8 v = some v0∧R0 v0 rows0):Does P g 0 args rows R0:=by
 intro w0 own m S w vs inv ha cs
 obtain ⟨e,w',fr,⟨u,v,rows2,rfl,hR,m',S',i2,r2,hm',hsz⟩,h3⟩:=h w0 own m S w vs inv ha cs
 obtain ⟨rs,v0,rows0,k1,k2,k3,k4⟩:=hs v rows2 hR
 exact ⟨_,w',fr,⟨u,v0,rows0,rfl,k4,renM m' rs,S',move_inv i2 k1 k2,renV_rel k3 r2,fun r hr=>absurd hr (Nat.not_lt_zero _),hsz⟩,h3⟩
end Go.Aev
end
section
namespace Go.Aev.M44
set_option maxRecDepth 1000000
open Go Go.Aev
theorem w64 (n:Int):IntKind.u64.wrap n = n % 18446744073709551616:=by simp [IntKind.wrap,IntKind.bits,IntKind.signed]
theorem w8 (n:Int):IntKind.u8.wrap n = n % 256:=by simp [IntKind.wrap,IntKind.bits,IntKind.signed]
theorem bytesL_len (l:Bs):(bytesL l).length = l.length:=by unfold bytesL; simp
theorem bytesL_append (a b:Bs):bytesL (a ++ b) = bytesL a ++ bytesL b:=by unfold bytesL; simp
theorem take_all {l:Bs}:List.take l.length (List.drop 0 (bytesL l)) = bytesL l:=by
 rw [List.drop_zero,← bytesL_len l,List.take_length]
theorem conv_bytes {l:Bs} {r:Nat} {rows:Aev.Rows} {ro:Bool} (h:liveAt rows r = some (.dat 1 (bytesL l) ro)):convV (liveAt rows) (.sl r 1 0 l.length l.length false) = some (LB l):=by
 have:toD1 (liveAt rows) (.sl r 1 0 l.length l.length false) = some (.list (bytesL l),[(r,.live (.dat 1 (bytesL l) true))]):=by
  simp only [toD1,h]
  rw [if_pos ⟨trivial,by rw [bytesL_len]; omega⟩,List.drop_zero,← bytesL_len l,List.take_length]
 simp only [convV,conv1,conv0,this]
def Bytes (l:Bs) (v:V) (rows:Aev.Rows):Prop:=∃ r,v = .sl r 1 0 l.length l.length false∧liveAt rows r = some (.dat 1 (bytesL l) false)
theorem Bytes.conv {l:Bs} {v:V} {rows:Aev.Rows} (h:Bytes l v rows):convV (liveAt rows) v = some (LB l):=by
 obtain ⟨r,rfl,h2⟩:=h
 exact conv_bytes h2
def NewB (l:Bs) (v:V) (rows:Aev.Rows):Prop:=v = outV l∧rows = outR l
theorem Bytes.new {P:Program} {g:FuncId} {args:List V} {l:Bs} (h:Does P g 0 args [] (Bytes l)):Does P g 0 args [] (NewB l):=by
 refine h.sel fun v rows' hb=>?_
 obtain ⟨r,rfl,h2⟩:=hb
 refine ⟨[r],outV l,outR l,rfl,?_,?_,rfl,rfl⟩
 ·simp only [mapO,h2,moveRow]; rfl
 ·simp only [renV,idxIn,outV]
  simp
theorem byteD_of {n:Nat} (h:n < 256):byteD (UInt8.ofNat n) = .int .u8 (n:Int):=by unfold byteD; rw [u8_of h]
theorem or128:∀ b:Fin 256,((BitVec.ofInt 8 (b.val:Int)) ||| (BitVec.ofInt 8 128)).toNat = b.val % 128 + 128:=by decide
theorem or_byte (z:Nat):IntKind.u8.wrap (((BitVec.ofInt 8 (IntKind.u8.wrap (z:Int))) ||| (BitVec.ofInt 8 128)).toNat:Int) = ((z % 128 + 128:Nat):Int):=by
 rw [w8 (z:Int)]
 have e:((z:Int) % 256) = (((⟨z % 256,by omega⟩:Fin 256).val:Nat):Int):=by show (z:Int) % 256 = ((z % 256:Nat):Int); omega
 rw [e,or128]
 show IntKind.u8.wrap ((z % 256 % 128 + 128:Nat):Int) = _
 rw [w8]; omega
theorem mod_byte (z:Nat):IntKind.u8.wrap (IntKind.u8.wrap ((z:Int).tmod 128) + 128) = ((z % 128 + 128:Nat):Int):=by
 rw [w8,w8,Int.tmod_eq_emod_of_nonneg (by omega)]; omega
theorem low_byte {z:Nat} (h:z < 128):IntKind.u8.wrap (z:Int) = (z:Int):=by rw [w8]; omega
theorem fdiv128 (z:Nat):(z:Int).fdiv ((2:Int) ^ 7) = ((z / 128:Nat):Int):=by
 rw [Int.fdiv_eq_ediv_of_nonneg _ (by decide)]; rfl
theorem tdiv128 {z:Nat} (h:z < 18446744073709551616):IntKind.u64.wrap ((z:Int).tdiv 128) = ((z / 128:Nat):Int):=by
 rw [Int.tdiv_eq_ediv_of_nonneg (by omega),w64]; omega
theorem zz_wire {n:Int} (h:in64 n):IntKind.u64.wrap (((BitVec.ofInt 64 (IntKind.u64.wrap (IntKind.u64.wrap n * (2:Int) ^ 1))) ^^^ (BitVec.ofInt 64 (IntKind.u64.wrap (n.fdiv ((2:Int) ^ 63))))).toNat:Int) = (zz n:Int):=by
 unfold in64 at h
 rw [Int.fdiv_eq_ediv_of_nonneg _ (by decide)]
 have e63:((2:Int) ^ 63) = 9223372036854775808:=by decide
 rw [e63,w64 n]
 by_cases hn:n < 0
 ·have e1:n / 9223372036854775808 = -1:=by omega
  rw [e1]
  have e2:BitVec.ofInt 64 (IntKind.u64.wrap (-1)) = BitVec.allOnes 64:=by rw [w64]; decide
  rw [e2,BitVec.xor_allOnes,BitVec.toNat_not]
  have e3:(BitVec.ofInt 64 (IntKind.u64.wrap (n % 18446744073709551616 * 2 ^ 1))).toNat = (2 * n + 18446744073709551616).toNat:=by
   rw [BitVec.toNat_ofInt,w64]
   congr 1
   have:(((2 ^ 64:Nat)):Int) = 18446744073709551616:=by decide
   omega
  rw [e3,w64]
  unfold zz
  rw [if_pos hn]
  have:(2:Nat) ^ 64 = 18446744073709551616:=by decide
  omega
 ·have e1:n / 9223372036854775808 = 0:=by omega
  rw [e1]
  have e2:BitVec.ofInt 64 (IntKind.u64.wrap 0) = 0#64:=by rw [w64]; decide
  rw [e2,BitVec.xor_zero]
  have e3:(BitVec.ofInt 64 (IntKind.u64.wrap (n % 18446744073709551616 * 2 ^ 1))).toNat = (2 * n).toNat:=by
   rw [BitVec.toNat_ofInt,w64]
   congr 1
   have:(((2 ^ 64:Nat)):Int) = 18446744073709551616:=by decide
   omega
  rw [e3,w64]
  unfold zz
  rw [if_neg hn]
  omega
theorem zz_ref_neg {n:Int} (h:in64 n) (hn:n < 0):IntKind.u64.wrap (IntKind.u64.wrap (IntKind.u64.wrap (-1 - n) * 2) + 1) = (zz n:Int):=by
 unfold in64 at h; unfold zz; rw [if_pos hn,w64,w64,w64]; omega
theorem zz_ref_pos {n:Int} (h:in64 n) (hn:¬ n < 0):IntKind.u64.wrap (IntKind.u64.wrap n * 2) = (zz n:Int):=by
 unfold in64 at h; unfold zz; rw [if_neg hn,w64,w64]; omega
theorem snoc_bytes {l:Bs} {n:Nat} (h:n < 256) {x:Int} (e:x = (n:Int)):List.take l.length (List.drop 0 (bytesL l)) ++ [D.int .u8 x] = bytesL (l ++ [UInt8.ofNat n]):=by
 rw [take_all,bytesL_append,e,← byteD_of h]; rfl
theorem fin_bytes {l:Bs} {z:Nat} (h:z < 128) {r0 r1:Slot}:Bytes (l ++ [UInt8.ofNat z]) (.sl 2 1 0 (l.length + 1) (l.length + 1) false) [r0,r1,.live (.dat 1 (List.take l.length (List.drop 0 (bytesL l)) ++ [D.int .u8 (IntKind.u8.wrap (z:Int))]) false)]:=by
 rw [snoc_bytes (n:=z) (by omega) (low_byte h)]
 exact ⟨2,by rw [List.length_append]; rfl,rfl⟩
theorem app_rows {l:Bs} {n:Nat} (h:n < 256) {x:Int} (e:x = (n:Int)) {P:V→Aev.Rows→Prop} (hp:P (outV (l ++ [UInt8.ofNat n])) (outR (l ++ [UInt8.ofNat n]))) :
  P (.sl 0 1 0 (l.length + 1) (l.length + 1) false) [.live (.dat 1 (List.take l.length (List.drop 0 (bytesL l)) ++ [D.int .u8 x]) false)]:=by
 rw [snoc_bytes h e]
 unfold outV outR at hp
 rw [List.length_append] at hp
 exact hp
theorem int_loop:∀ (k z:Nat) (l:Bs),z < 128 ^ (k + 1)→l.length + k ≤ 1000→Ends c0 0 (H90 (z:Int) (outV l) (outR l)) (Bytes (l ++ vb z)):=by
 intro k
 induction k with
 | zero =>
  intro z l hz hl
  have hz':z < 128:=by simpa using hz
  rw [vb,dif_pos hz']
  refine int_s_f ⟨decide_eq_false (by omega),⟨rfl,rfl,by omega⟩,⟨by omega,by omega,rfl,rfl,by rw [bytesL_len]; omega,by omega,by omega,by omega⟩,trivial⟩ (fin_bytes hz')
 | succ k ih =>
  intro z l hz hl
  by_cases hz':z < 128
  ·rw [vb,dif_pos hz']
   refine int_s_f ⟨decide_eq_false (by omega),⟨rfl,rfl,by omega⟩,⟨by omega,by omega,rfl,rfl,by rw [bytesL_len]; omega,by omega,by omega,by omega⟩,trivial⟩ (fin_bytes hz')
  ·rw [vb,dif_neg hz']
   refine int_s_t ⟨decide_eq_true (by omega),⟨rfl,rfl,by omega⟩,⟨by omega,by omega,rfl,rfl,by rw [bytesL_len]; omega,by omega,by omega,by omega⟩,by omega,trivial⟩ ?_
   rw [fdiv128]
   refine app_rows (P:=fun v rows=>Ends c0 0 (hd 90 td90 27 [(3,U64 ((z / 128:Nat):Int)),(4,v)] rows) _) (n:=z % 128 + 128) (by omega) (or_byte z) ?_
   have:=ih (z / 128) (l ++ [UInt8.ofNat (z % 128 + 128)]) (by rw [Nat.pow_succ] at hz; omega) (by simp; omega)
   rw [List.append_assoc] at this
   exact this
theorem int_go {n:Int} (h:in64 n):Ends c0 0 (start c0 90 [I n] []) (Bytes (enc n)):=by
 refine int_0_ ⟨by omega,by omega,trivial⟩ ?_
 rw [zz_wire h]
 have hz:=zz_lt h
 unfold enc
 by_cases hz':zz n < 128
 ·rw [vb,dif_pos hz']
  refine int_n_f (z:=(zz n:Int)) ⟨decide_eq_false (by omega),trivial⟩ ?_
  rw [low_byte hz',← byteD_of (n:=zz n) (by omega)]
  exact ⟨1,rfl,rfl⟩
 ·rw [vb,dif_neg hz']
  refine int_n_t (z:=(zz n:Int)) ⟨decide_eq_true (by omega),by omega,trivial⟩ ?_
  rw [fdiv128,or_byte,← byteD_of (n:=zz n % 128 + 128) (by omega)]
  exact int_loop 20 (zz n / 128) [UInt8.ofNat (zz n % 128 + 128)] (by
   have:(128:Nat) ^ 21 = 178405961588244985132285746181186892047843328:=by decide
   omega) (by simp)
theorem wire_int {n:Int} (h:in64 n):RCs PP 90 [I n] [] (LB (enc n)):=rcs_of c0_ok (by kernel_rfl) ((int_go h).mono fun _ _ h=>h.conv)
theorem int_new {n:Int} (h:in64 n):Does PP 90 0 [I n] [] (NewB (enc n)):=Bytes.new (does_of c0_ok (by kernel_rfl) (int_go h))
theorem rnt_loop:∀ (k z:Nat) (l:Bs),z < 18446744073709551616→z < 128 ^ (k + 1)→l.length + k ≤ 1000→Ends c0 0 (H93 (z:Int) (outV l) (outR l)) (Bytes (l ++ vb z)):=by
 intro k
 induction k with
 | zero =>
  intro z l h64 hz hl
  have hz':z < 128:=by simpa using hz
  rw [vb,dif_pos hz']
  refine rnt_s_f ⟨decide_eq_false (by omega),⟨rfl,rfl,by omega⟩,⟨by omega,by omega,rfl,rfl,by rw [bytesL_len]; omega,by omega,by omega,by omega⟩,trivial⟩ (fin_bytes hz')
 | succ k ih =>
  intro z l h64 hz hl
  by_cases hz':z < 128
  ·rw [vb,dif_pos hz']
   refine rnt_s_f ⟨decide_eq_false (by omega),⟨rfl,rfl,by omega⟩,⟨by omega,by omega,rfl,rfl,by rw [bytesL_len]; omega,by omega,by omega,by omega⟩,trivial⟩ (fin_bytes hz')
  ·rw [vb,dif_neg hz']
   refine rnt_s_t ⟨decide_eq_true (by omega),rfl,by decide,⟨rfl,rfl,by omega⟩,⟨by omega,by omega,rfl,rfl,by rw [bytesL_len]; omega,by omega,by omega,by omega⟩,rfl,by decide,trivial⟩ ?_
   rw [tdiv128 h64]
   refine app_rows (P:=fun v rows=>Ends c0 0 (hd 93 td93 31 [(3,U64 ((z / 128:Nat):Int)),(4,v)] rows) _) (n:=z % 128 + 128) (by omega) (mod_byte z) ?_
   have:=ih (z / 128) (l ++ [UInt8.ofNat (z % 128 + 128)]) (by omega) (by rw [Nat.pow_succ] at hz; omega) (by simp; omega)
   rw [List.append_assoc] at this
   exact this
theorem rnt_go {z:Nat} (hz:z < 18446744073709551616):Ends c0 0 (H93 (z:Int) .nil []) (Bytes (vb z)):=by
 by_cases hz':z < 128
 ·rw [vb,dif_pos hz']
  refine rnt_n_f (z:=(z:Int)) ⟨decide_eq_false (by omega),trivial⟩ ?_
  rw [low_byte hz',← byteD_of (n:=z) (by omega)]
  exact ⟨1,rfl,rfl⟩
 ·rw [vb,dif_neg hz']
  refine rnt_n_t (z:=(z:Int)) ⟨decide_eq_true (by omega),rfl,by decide,rfl,by decide,trivial⟩ ?_
  rw [tdiv128 hz,mod_byte,← byteD_of (n:=z % 128 + 128) (by omega)]
  exact rnt_loop 20 (z / 128) [UInt8.ofNat (z % 128 + 128)] (by omega) (by
   have:(128:Nat) ^ 21 = 178405961588244985132285746181186892047843328:=by decide
   omega) (by simp)
theorem rnt_start {n:Int} (h:in64 n):Ends c0 0 (start c0 93 [I n] []) (Bytes (enc n)):=by
 have hz:=zz_lt h
 by_cases hn:n < 0
 ·refine rnt_0_t ⟨decide_eq_true hn,by unfold in64 at h; unfold inInt; omega,trivial⟩ ?_
  rw [zz_ref_neg h hn]
  exact rnt_go hz
 ·refine rnt_0_f ⟨decide_eq_false hn,trivial⟩ ?_
  rw [zz_ref_pos h hn]
  exact rnt_go hz
theorem ref_int {n:Int} (h:in64 n):RCs PP 93 [I n] [] (LB (enc n)):=rcs_of c0_ok (by kernel_rfl) ((rnt_start h).mono fun _ _ h=>h.conv)
theorem rnt_new {n:Int} (h:in64 n):Does PP 93 0 [I n] [] (NewB (enc n)):=Bytes.new (does_of c0_ok (by kernel_rfl) (rnt_start h))
end Go.Aev.M44
end
section
namespace Go.Aev.M44
set_option maxRecDepth 100000
open Go Go.Aev
theorem wi64 (n:Int):IntKind.i64.wrap n = (n + 9223372036854775808) % 18446744073709551616 - 9223372036854775808:=by
 simp [IntKind.wrap,IntKind.bits,IntKind.signed]
 split <;> omega
theorem and127:∀ b:Fin 256,((BitVec.ofInt 8 (b.val:Int)) &&& (BitVec.ofInt 8 127)).toNat = b.val % 128:=by decide
theorem and_byte (c:UInt8):IntKind.u8.wrap (((BitVec.ofInt 8 (c.toNat:Int)) &&& (BitVec.ofInt 8 127)).toNat:Int) = ((c.toNat % 128:Nat):Int):=by
 have e:(c.toNat:Int) = (((⟨c.toNat,c.toNat_lt⟩:Fin 256).val:Nat):Int):=rfl
 rw [e,and127]
 show IntKind.u8.wrap ((c.toNat % 128:Nat):Int) = _
 rw [w8]; omega
theorem or_low {z a m:Nat} (h:z < 2 ^ m):z ||| a * 2 ^ m = z + a * 2 ^ m:=by
 have:=Nat.two_pow_add_eq_or_of_lt h a
 rw [Nat.mul_comm,Nat.or_comm,← this,Nat.add_comm]
theorem acc_step {z k:Nat} {c:UInt8} (hz:z < 2 ^ (7 * k)) (hk:k ≤ 9) (hc:k = 9→c.toNat ≤ 1) :
  IntKind.u64.wrap (((BitVec.ofInt 64 (z:Int)) ||| (BitVec.ofInt 64 (IntKind.u64.wrap (IntKind.u64.wrap (IntKind.u8.wrap (((BitVec.ofInt 8 (c.toNat:Int)) &&& (BitVec.ofInt 8 127)).toNat:Int)) * (2:Int) ^ min (Int.toNat ((7:Int) * (k:Int))) 64)))).toNat:Int) = ((z + c.toNat % 128 * 2 ^ (7 * k):Nat):Int)∧z + c.toNat % 128 * 2 ^ (7 * k) < 18446744073709551616∧z + c.toNat % 128 * 2 ^ (7 * k) < 2 ^ (7 * (k + 1)):=by
 have em:min (Int.toNat ((7:Int) * (k:Int))) 64 = 7 * k:=by omega
 rw [em,and_byte]
 have hp:2 ^ (7 * k) ≤ 2 ^ 63:=Nat.pow_le_pow_right (by omega) (by omega)
 have e63:(2:Nat) ^ 63 = 9223372036854775808:=by decide
 have hb:c.toNat % 128 * 2 ^ (7 * k) + 2 ^ (7 * k) ≤ 2 ^ (7 * (k + 1)):=by
  have:2 ^ (7 * (k + 1)) = 128 * 2 ^ (7 * k):=by rw [Nat.mul_add,Nat.pow_add]; omega
  rw [this]
  have h1:c.toNat % 128 + 1 ≤ 128:=by omega
  calc c.toNat % 128 * 2 ^ (7 * k) + 2 ^ (7 * k) = (c.toNat % 128 + 1) * 2 ^ (7 * k):=by rw [Nat.add_mul,Nat.one_mul]
   _ ≤ 128 * 2 ^ (7 * k):=Nat.mul_le_mul_right _ h1
 have hall:c.toNat % 128 * 2 ^ (7 * k) + 2 ^ (7 * k) ≤ 18446744073709551616:=by
  by_cases h9:k = 9
  ·have h1:=hc h9
   have h2:=Nat.mul_le_mul_right (2 ^ (7 * k)) (show c.toNat % 128 ≤ 1 by omega)
   rw [Nat.one_mul] at h2
   rw [e63] at hp
   generalize c.toNat % 128 * 2 ^ (7 * k) = x at *
   generalize 2 ^ (7 * k) = p at *
   omega
  ·have h3:2 ^ (7 * (k + 1)) ≤ 2 ^ 63:=Nat.pow_le_pow_right (by omega) (by omega)
   rw [e63] at h3
   exact Nat.le_trans hb (by omega)
 have e8:(IntKind.u64.wrap ((c.toNat % 128:Nat):Int)) = ((c.toNat % 128:Nat):Int):=by rw [w64]; omega
 rw [e8]
 have em2:(((c.toNat % 128:Nat):Int)) * (2:Int) ^ (7 * k) = ((c.toNat % 128 * 2 ^ (7 * k):Nat):Int):=by
  rw [Int.natCast_mul,Int.natCast_pow]; rfl
 rw [em2]
 generalize hx:c.toNat % 128 * 2 ^ (7 * k) = x at *
 have ex:IntKind.u64.wrap ((x:Nat):Int) = (x:Int):=by rw [w64]; omega
 rw [ex]
 have hor:((BitVec.ofInt 64 (z:Int)) ||| (BitVec.ofInt 64 (x:Int))).toNat = z + x:=by
  rw [BitVec.toNat_or,BitVec.ofInt_natCast,BitVec.ofInt_natCast,BitVec.toNat_ofNat,BitVec.toNat_ofNat]
  have e64:(2:Nat) ^ 64 = 18446744073709551616:=by decide
  rw [e64,Nat.mod_eq_of_lt (by omega),Nat.mod_eq_of_lt (by omega),← hx]
  exact or_low hz
 rw [hor]
 refine ⟨by rw [w64]; omega,by omega,by omega⟩
theorem uz_wire {x:Nat} (h:x < 18446744073709551616) :
  IntKind.i64.wrap (((BitVec.ofInt 64 (IntKind.i64.wrap (Int.fdiv (x:Int) ((2:Int) ^ 1)))) ^^^ (BitVec.ofInt 64 (IntKind.i64.wrap ((0:Int) - IntKind.i64.wrap (IntKind.u64.wrap (((BitVec.ofInt 64 (x:Int)) &&& (BitVec.ofInt 64 1)).toNat:Int)))))).toNat:Int) = uz x:=by
 have e64:(2:Nat) ^ 64 = 18446744073709551616:=by decide
 have ef:Int.fdiv (x:Int) ((2:Int) ^ 1) = ((x / 2:Nat):Int):=by rw [Int.fdiv_eq_ediv_of_nonneg _ (by decide)]; rfl
 have e1:((BitVec.ofInt 64 (x:Int)) &&& (BitVec.ofInt 64 1)).toNat = x % 2:=by
  rw [BitVec.toNat_and,BitVec.ofInt_natCast,BitVec.toNat_ofNat]
  have:(BitVec.ofInt 64 1).toNat = 1:=by decide
  rw [this,Nat.and_one_is_mod]; omega
 have e2:IntKind.i64.wrap (((x / 2:Nat)):Int) = ((x / 2:Nat):Int):=by rw [wi64]; omega
 rw [ef,e1,e2]
 have e3:IntKind.i64.wrap (IntKind.u64.wrap ((x % 2:Nat):Int)) = ((x % 2:Nat):Int):=by rw [w64,wi64]; omega
 rw [e3]
 unfold uz
 by_cases h2:x % 2 = 1
 ·rw [if_pos h2,h2]
  have e4:BitVec.ofInt 64 (IntKind.i64.wrap ((0:Int) - ((1:Nat):Int))) = BitVec.allOnes 64:=by rw [wi64]; decide
  rw [e4,BitVec.xor_allOnes,BitVec.toNat_not,BitVec.ofInt_natCast,BitVec.toNat_ofNat,wi64]
  rw [e64]; omega
 ·have h0:x % 2 = 0:=by omega
  rw [if_neg h2,h0]
  have e4:BitVec.ofInt 64 (IntKind.i64.wrap ((0:Int) - ((0:Nat):Int))) = 0#64:=by rw [wi64]; decide
  rw [e4,BitVec.xor_zero,BitVec.ofInt_natCast,BitVec.toNat_ofNat,wi64,e64]; omega
def low (b:Bs):Nat→Nat
 | 0=>0
 | k + 1=>low b k + (b.getD k 0).toNat % 128 * 2 ^ (7 * k)
theorem low_lt (b:Bs):∀ k,low b k < 2 ^ (7 * k)
 | 0=>by simp [low]
 | k + 1=>by
  have:=low_lt b k
  have e:2 ^ (7 * (k + 1)) = 128 * 2 ^ (7 * k):=by rw [Nat.mul_add,Nat.pow_add]; omega
  rw [e]; unfold low
  have h1:(b.getD k 0).toNat % 128 + 1 ≤ 128:=by omega
  have:=Nat.mul_le_mul_right (2 ^ (7 * k)) h1
  rw [Nat.add_mul,Nat.one_mul] at this
  omega
theorem low_cons (c:UInt8) (r:Bs):∀ k,low (c :: r) (k + 1) = c.toNat % 128 + 128 * low r k
 | 0=>by simp [low]
 | k + 1=>by
  rw [low,low_cons c r k,low]
  have e:2 ^ (7 * (k + 1)) = 128 * 2 ^ (7 * k):=by rw [Nat.mul_add,Nat.pow_add]; omega
  have e2:(c :: r).getD (k + 1) 0 = r.getD k 0:=rfl
  rw [e,e2,Nat.mul_add,Nat.mul_left_comm 128]
  omega
theorem low_val:∀ (b:Bs) (k:Nat),k < b.length→low b (k + 1) = val b k
 | [],k,h=>absurd h (by simp)
 | c :: r,0,_=>by rw [low_cons]; simp [low,val]
 | c :: r,k + 1,h=>by
  rw [low_cons,low_val r k (by simpa using h)]; rfl
theorem lead_hi:∀ (b:Bs) (k:Nat),k < lead b→128 ≤ (b.getD k 0).toNat
 | [],k,h=>absurd h (by simp [lead])
 | c :: r,k,h=>by
  simp only [lead] at h
  split at h
  ·cases k with
   | zero=>assumption
   | succ k=>exact lead_hi r k (by omega)
  ·omega
theorem lead_lo:∀ (b:Bs),lead b < b.length→(b.getD (lead b) 0).toNat < 128
 | [],h=>absurd h (by simp)
 | c :: r,h=>by
  by_cases hc:128 ≤ c.toNat
  ·have hl:lead (c :: r) = lead r + 1:=by simp only [lead]; rw [if_pos hc]
   rw [hl] at h ⊢
   exact lead_lo r (by simpa using h)
  ·have hl:lead (c :: r) = 0:=by simp only [lead]; rw [if_neg hc]
   rw [hl]; show c.toNat < 128; omega
theorem lead_at {b:Bs} {k:Nat} (h1:k ≤ lead b) (h2:k < b.length) (h3:(b.getD k 0).toNat < 128):lead b = k:=by
 rcases Nat.lt_or_ge k (lead b) with h | h
 ·have:=lead_hi b k h; omega
 ·omega
theorem lead_on {b:Bs} {k:Nat} (h1:k ≤ lead b) (h2:k < b.length) (h3:¬ (b.getD k 0).toNat < 128):k + 1 ≤ lead b:=by
 rcases Nat.lt_or_ge k (lead b) with h | h
 ·omega
 ·have e:lead b = k:=by omega
  have:=lead_lo b (by omega)
  rw [e] at this; omega
def gV:Except Nat (Int × Nat)→V
 | .ok (n,u)=>.tup [I n,I (u:Int),I 0]
 | .error e=>.tup [I 0,I 0,I (e:Int)]
end Go.Aev.M44
end
section
namespace Go.Aev.M44
set_option maxRecDepth 1000000
open Go Go.Aev
theorem bytes_get {b:Bs} {k:Nat} (h:k < b.length):(bytesL b)[k]? = some (D.int .u8 ((b.getD k 0).toNat:Int)):=by
 unfold bytesL; rw [List.getElem?_map]; simp [h,byteD]
def Reads (r:Except Nat (Int × Nat)) (v:V) (rows:Aev.Rows):Prop:=convV (liveAt rows) v = some (gV r)
theorem gInt_end {b:Bs} {k:Nat} (h1:k ≤ lead b) (h2:k ≤ 9) (h3:b.length ≤ k):gInt b = .error 10:=by
 have:=lead_le b
 unfold gInt; rw [if_neg (by omega),if_pos (by omega)]
theorem gInt_bad9 {b:Bs} (h1:9 ≤ lead b) (h2:9 < b.length) (hc:1 < (b.getD 9 0).toNat):gInt b = .error 11:=by
 unfold gInt
 by_cases h:10 ≤ lead b
 ·rw [if_pos h]
 ·have e:lead b = 9:=by omega
  rw [if_neg h,if_neg (by omega),e,if_pos (.inl ⟨rfl,hc⟩)]
theorem gInt_bad0 {b:Bs} {k:Nat} (h1:k ≤ lead b) (h2:k < b.length) (h3:0 < k) (h9:k ≤ 9) (hc:(b.getD k 0).toNat = 0):gInt b = .error 11:=by
 have e:=lead_at h1 h2 (by omega)
 unfold gInt
 rw [if_neg (by omega),if_neg (by omega),e,if_pos (.inr ⟨h3,hc⟩)]
theorem gInt_good {b:Bs} {k:Nat} (h1:k ≤ lead b) (h2:k < b.length) (h9:k ≤ 9) (hc:(b.getD k 0).toNat < 128) (hb:k = 9→(b.getD k 0).toNat ≤ 1) (h0:0 < k→(b.getD k 0).toNat ≠ 0):gInt b = .ok (uz (low b (k + 1)),k + 1):=by
 have e:=lead_at h1 h2 hc
 unfold gInt
 rw [if_neg (by omega),if_neg (by omega),e,if_neg (by rintro (⟨h,h'⟩ | ⟨h,h'⟩); have:=hb h; omega; exact h0 h h'),low_val b k h2]
theorem get_mid {b:Bs} {k:Nat} (hk:k < b.length) (h1:k ≤ lead b) (h9:k ≤ 9) (hc9:k = 9→(b.getD k 0).toNat ≤ 1) {x:Bool} (hx:x = true ↔ (0 < k∧(b.getD k 0).toNat = 0))
  (ih:k ≠ 9→¬ (b.getD k 0).toNat < 128→Ends c0 0 (H80 b (low b (k + 1):Nat) ((k + 1:Nat))) (Reads (gInt b))) :
  Ends c0 0 (C80 b (low b k:Nat) (k:Nat) ((b.getD k 0).toNat:Nat) x) (Reads (gInt b)):=by
 have hcl:(b.getD k 0).toNat < 256:=(b.getD k 0).toNat_lt
 cases x with
 | true =>
  obtain ⟨k0,c0'⟩:=hx.1 rfl
  rw [gInt_bad0 hk (h1:=h1) (h3:=k0) (h9:=h9) (hc:=c0')]
  exact get_c_t ⟨rfl,trivial⟩ rfl
 | false =>
  have hn:0 < k→(b.getD k 0).toNat ≠ 0:=fun h0 hc=>by cases hx.2 ⟨h0,hc⟩
  obtain ⟨a1,a2,a3⟩:=acc_step (c:=b.getD k 0) (low_lt b k) h9 hc9
  by_cases hc:(b.getD k 0).toNat < 128
  ·rw [gInt_good h1 hk h9 hc hc9 hn]
   refine get_c_ftf (by (try simp only [AllP,Int.toNat_natCast,bytesL_len,decide_eq_true_eq,decide_eq_false_iff_not,beq_eq_false_iff_ne,beq_iff_eq,bne_iff_ne,bne_eq_false_iff_eq,Bool.not_eq_true',Bool.not_eq_false',Int.not_lt,Int.not_le,gt_iff_lt,ge_iff_le,ne_eq,and_true,true_and]); all_goals (repeat' (first | with_reducible assumption | with_reducible rfl | omega | with_reducible exact bytes_get (by omega) | with_reducible apply And.intro | unfold inInt | decide))) ?_
   rw [a1,uz_wire a2]
   rfl
  ·refine get_c_ff (by (try simp only [AllP,Int.toNat_natCast,bytesL_len,decide_eq_true_eq,decide_eq_false_iff_not,beq_eq_false_iff_ne,beq_iff_eq,bne_iff_ne,bne_eq_false_iff_eq,Bool.not_eq_true',Bool.not_eq_false',Int.not_lt,Int.not_le,gt_iff_lt,ge_iff_le,ne_eq,and_true,true_and]); all_goals (repeat' (first | with_reducible assumption | with_reducible rfl | omega | with_reducible exact bytes_get (by omega) | with_reducible apply And.intro | unfold inInt | decide))) ?_
   rw [a1]
   exact ih (fun h=>by have:=hc9 h; omega) hc
theorem get_loop (b:Bs) (hb:short b.length):∀ (n k:Nat),k + n = 10→k ≤ lead b→k ≤ 9→Ends c0 0 (H80 b (low b k:Nat) (k:Nat)) (Reads (gInt b)):=by
 intro n
 induction n with
 | zero=>intro k hn h1 h9; omega
 | succ n ih =>
  intro k hn h1 h9
  unfold short at hb
  by_cases hk:k < b.length
  ·have hcl:(b.getD k 0).toNat < 256:=(b.getD k 0).toNat_lt
   have go:k ≠ 9→¬ (b.getD k 0).toNat < 128→Ends c0 0 (H80 b (low b (k + 1):Nat) ((k + 1:Nat))) (Reads (gInt b)):=fun h hc=>ih (k + 1) (by omega) (lead_on h1 hk hc) (by omega)
   by_cases k9:k = 9
   ·by_cases hc:1 < (b.getD k 0).toNat
    ·subst k9
     rw [gInt_bad9 h1 hk hc]
     exact get_a_ttt (by (try simp only [AllP,Int.toNat_natCast,bytesL_len,decide_eq_true_eq,decide_eq_false_iff_not,beq_eq_false_iff_ne,beq_iff_eq,bne_iff_ne,bne_eq_false_iff_eq,Bool.not_eq_true',Bool.not_eq_false',Int.not_lt,Int.not_le,gt_iff_lt,ge_iff_le,ne_eq,and_true,true_and]); all_goals (repeat' (first | with_reducible assumption | with_reducible rfl | omega | with_reducible exact bytes_get (by omega) | with_reducible apply And.intro | unfold inInt | decide))) rfl
    ·refine get_a_ttft (by (try simp only [AllP,Int.toNat_natCast,bytesL_len,decide_eq_true_eq,decide_eq_false_iff_not,beq_eq_false_iff_ne,beq_iff_eq,bne_iff_ne,bne_eq_false_iff_eq,Bool.not_eq_true',Bool.not_eq_false',Int.not_lt,Int.not_le,gt_iff_lt,ge_iff_le,ne_eq,and_true,true_and]); all_goals (repeat' (first | with_reducible assumption | with_reducible rfl | omega | with_reducible exact bytes_get (by omega) | with_reducible apply And.intro | unfold inInt | decide))) ?_
     rw [Int.toNat_natCast]
     exact get_mid hk h1 h9 (fun _=>by omega) (by simp; omega) go
   ·by_cases k0:k = 0
    ·refine get_a_tff (by (try simp only [AllP,Int.toNat_natCast,bytesL_len,decide_eq_true_eq,decide_eq_false_iff_not,beq_eq_false_iff_ne,beq_iff_eq,bne_iff_ne,bne_eq_false_iff_eq,Bool.not_eq_true',Bool.not_eq_false',Int.not_lt,Int.not_le,gt_iff_lt,ge_iff_le,ne_eq,and_true,true_and]); all_goals (repeat' (first | with_reducible assumption | with_reducible rfl | omega | with_reducible exact bytes_get (by omega) | with_reducible apply And.intro | unfold inInt | decide))) ?_
     rw [Int.toNat_natCast]
     exact get_mid hk h1 h9 (fun h=>by omega) (by simp; omega) go
    ·refine get_a_tft (by (try simp only [AllP,Int.toNat_natCast,bytesL_len,decide_eq_true_eq,decide_eq_false_iff_not,beq_eq_false_iff_ne,beq_iff_eq,bne_iff_ne,bne_eq_false_iff_eq,Bool.not_eq_true',Bool.not_eq_false',Int.not_lt,Int.not_le,gt_iff_lt,ge_iff_le,ne_eq,and_true,true_and]); all_goals (repeat' (first | with_reducible assumption | with_reducible rfl | omega | with_reducible exact bytes_get (by omega) | with_reducible apply And.intro | unfold inInt | decide))) ?_
     rw [Int.toNat_natCast]
     exact get_mid hk h1 h9 (fun h=>by omega) (by simp; omega) go
  ·rw [gInt_end h1 h9 (by omega)]
   exact get_a_f (by (try simp only [AllP,Int.toNat_natCast,bytesL_len,decide_eq_true_eq,decide_eq_false_iff_not,beq_eq_false_iff_ne,beq_iff_eq,bne_iff_ne,bne_eq_false_iff_eq,Bool.not_eq_true',Bool.not_eq_false',Int.not_lt,Int.not_le,gt_iff_lt,ge_iff_le,ne_eq,and_true,true_and]); all_goals (repeat' (first | with_reducible assumption | with_reducible rfl | omega | with_reducible exact bytes_get (by omega) | with_reducible apply And.intro | unfold inInt | decide))) rfl
theorem wire_get (b:Bs) (hb:short b.length):RCs PP 80 [LB b] [] (gV (gInt b)) :=
 rcs_of c0_ok (by kernel_rfl) (get_0_ (by (try simp only [AllP,Int.toNat_natCast,bytesL_len,decide_eq_true_eq,decide_eq_false_iff_not,beq_eq_false_iff_ne,beq_iff_eq,bne_iff_ne,bne_eq_false_iff_eq,Bool.not_eq_true',Bool.not_eq_false',Int.not_lt,Int.not_le,gt_iff_lt,ge_iff_le,ne_eq,and_true,true_and]); all_goals (repeat' (first | with_reducible assumption | with_reducible rfl | omega | with_reducible exact bytes_get (by omega) | with_reducible apply And.intro | unfold inInt | decide))) (get_loop b hb 10 0 rfl (Nat.zero_le _) (by omega)))
end Go.Aev.M44
end
section
set_option maxRecDepth 1000000
set_option linter.unusedVariables false
namespace Go.Aev.M44
open Go Go.Aev
noncomputable def td85:List AItem:=(nextOf (sTo c0 (hints []) anyLoop 300 (start c0 85 [LB []] []))).fr.todo
noncomputable def H85 (b:List UInt8) (k:Int):AS:=hd 85 td85 79 [(0,LB b),(5,I k)] []
noncomputable def td85b:List AItem:=(nextOf (sTo c0 (hints []) anyLoop 300 (H85 [0] 0))).fr.todo
noncomputable def H85b (b:List UInt8) (k z j:Int):AS:=hd 85 td85b 79 [(0,LB b),(5,I k),(6,U64 z),(7,I j)] []
end Go.Aev.M44
namespace Go.Aev.M44
theorem rgt_0_ {b:List UInt8} {Q:V→Aev.Rows→Prop} (hp:AllP []) (h:Ends c0 0 (hd 85 td85 79 [(0,V.d (D.list (bytesL b))),(5,I 0)] []) Q):Ends c0 0 (start c0 85 [LB b] []) Q :=
 Ends.turn c0_ok (hints [] [] [] 0 false true) anyLoop 140 [] [0,5] (by kernel_rfl) hp h
theorem rgt_n_ttt {b:List UInt8} {k:Int} {Q:V→Aev.Rows→Prop} (hp:AllP [decide (k < (↑(List.length (bytesL b)):Int)) = true,decide (k < (↑(List.length (bytesL b)):Int)) = true,decide (k < (↑(List.length (bytesL b)):Int)) = true,decide (k < (10:Int)) = true,decide (k < (10:Int)) = true,decide (k < (10:Int)) = true,(0:Int) ≤ k∧k < (↑(List.length (bytesL b)):Int),(bytesL b)[Int.toNat k]? = some (D.int IntKind.u8 (↑(UInt8.toNat (List.getD b (Int.toNat k) (0:UInt8))):Int)),1 = 1,decide (k < (10:Int)) = true,decide (k < (10:Int)) = true,decide (k < (10:Int)) = true,decide ((↑(UInt8.toNat (List.getD b (Int.toNat k) (0:UInt8))):Int) ≥ (128:Int)) = true,inInt (k + (1:Int))]) (h:Ends c0 0 (hd 85 td85 79 [(0,V.d (D.list (bytesL b))),(5,I (k + (1:Int)))] []) Q):Ends c0 0 (H85 b k) Q :=
  Ends.turn c0_ok (hints [(12,true),(16,true),(22,true)] [(17,elB (b))] [] 0 false true) anyLoop 140 [] [0,
 5] (by kernel_rfl) hp h
theorem rgt_n_ttffftt {b:List UInt8} {k:Int} {Q:V→Aev.Rows→Prop} (hp:AllP [decide (k < (↑(List.length (bytesL b)):Int)) = true,decide (k < (↑(List.length (bytesL b)):Int)) = true,decide (k < (↑(List.length (bytesL b)):Int)) = true,decide (k < (10:Int)) = true,decide (k < (10:Int)) = true,decide (k < (10:Int)) = true,(0:Int) ≤ k∧k < (↑(List.length (bytesL b)):Int),(bytesL b)[Int.toNat k]? = some (D.int IntKind.u8 (↑(UInt8.toNat (List.getD b (Int.toNat k) (0:UInt8))):Int)),1 = 1,decide (k < (10:Int)) = true,decide (k < (10:Int)) = true,decide (k < (10:Int)) = true,decide ((↑(UInt8.toNat (List.getD b (Int.toNat k) (0:UInt8))):Int) ≥ (128:Int)) = false,(k == (10:Int)) = false,(k == (↑(List.length (bytesL b)):Int)) = false,(k == (9:Int)) = true,(k == (9:Int)) = true,(k == (9:Int)) = true,(0:Int) ≤ k∧k < (↑(List.length (bytesL b)):Int),(bytesL b)[Int.toNat k]? = some (D.int IntKind.u8 (↑(UInt8.toNat (List.getD b (Int.toNat k) (0:UInt8))):Int)),1 = 1,(k == (9:Int)) = true,(k == (9:Int)) = true,(k == (9:Int)) = true,decide ((↑(UInt8.toNat (List.getD b (Int.toNat k) (0:UInt8))):Int) > (1:Int)) = true,decide ((↑(UInt8.toNat (List.getD b (Int.toNat k) (0:UInt8))):Int) > (1:Int)) = true,decide ((↑(UInt8.toNat (List.getD b (Int.toNat k) (0:UInt8))):Int) > (1:Int)) = true,decide ((↑(UInt8.toNat (List.getD b (Int.toNat k) (0:UInt8))):Int) > (1:Int)) = true,decide ((↑(UInt8.toNat (List.getD b (Int.toNat k) (0:UInt8))):Int) > (1:Int)) = true]) (h:Q (V.tup [I 0,I 0,I 11]) ([])):Ends c0 0 (H85 b k) Q :=
 Ends.toFin c0_ok (hints [(12,true),(16,true),(22,false),(26,false),(30,false),(33,true),(40,true)] [(17,elB (b)),(34,elB (b))] [] 0 false true) anyLoop 140 (by kernel_rfl) hp h
theorem rgt_n_ttffftftt {b:List UInt8} {k:Int} {Q:V→Aev.Rows→Prop} (hp:AllP [decide (k < (↑(List.length (bytesL b)):Int)) = true,decide (k < (↑(List.length (bytesL b)):Int)) = true,decide (k < (↑(List.length (bytesL b)):Int)) = true,decide (k < (10:Int)) = true,decide (k < (10:Int)) = true,decide (k < (10:Int)) = true,(0:Int) ≤ k∧k < (↑(List.length (bytesL b)):Int),(bytesL b)[Int.toNat k]? = some (D.int IntKind.u8 (↑(UInt8.toNat (List.getD b (Int.toNat k) (0:UInt8))):Int)),1 = 1,decide (k < (10:Int)) = true,decide (k < (10:Int)) = true,decide (k < (10:Int)) = true,decide ((↑(UInt8.toNat (List.getD b (Int.toNat k) (0:UInt8))):Int) ≥ (128:Int)) = false,(k == (10:Int)) = false,(k == (↑(List.length (bytesL b)):Int)) = false,(k == (9:Int)) = true,(k == (9:Int)) = true,(k == (9:Int)) = true,(0:Int) ≤ k∧k < (↑(List.length (bytesL b)):Int),(bytesL b)[Int.toNat k]? = some (D.int IntKind.u8 (↑(UInt8.toNat (List.getD b (Int.toNat k) (0:UInt8))):Int)),1 = 1,(k == (9:Int)) = true,(k == (9:Int)) = true,(k == (9:Int)) = true,decide ((↑(UInt8.toNat (List.getD b (Int.toNat k) (0:UInt8))):Int) > (1:Int)) = false,decide ((↑(UInt8.toNat (List.getD b (Int.toNat k) (0:UInt8))):Int) > (1:Int)) = false,decide ((↑(UInt8.toNat (List.getD b (Int.toNat k) (0:UInt8))):Int) > (1:Int)) = false,decide (k > (0:Int)) = true,decide (k > (0:Int)) = true,decide (k > (0:Int)) = true,(0:Int) ≤ k∧k < (↑(List.length (bytesL b)):Int),(bytesL b)[Int.toNat k]? = some (D.int IntKind.u8 (↑(UInt8.toNat (List.getD b (Int.toNat k) (0:UInt8))):Int)),1 = 1,decide (k > (0:Int)) = true,decide (k > (0:Int)) = true,decide ((↑(UInt8.toNat (List.getD b (Int.toNat k) (0:UInt8))):Int) > (1:Int)) = false,decide (k > (0:Int)) = true,decide ((↑(UInt8.toNat (List.getD b (Int.toNat k) (0:UInt8))):Int) > (1:Int)) = false,((↑(UInt8.toNat (List.getD b (Int.toNat k) (0:UInt8))):Int) == (0:Int)) = true]) (h:Q (V.tup [I 0,I 0,I 11]) ([])):Ends c0 0 (H85 b k) Q :=
 Ends.toFin c0_ok (hints [(12,true),(16,true),(22,false),(26,false),(30,false),(33,true),(40,false),(43,true),(50,true)] [(17,elB (b)),(34,elB (b)),(44,elB (b))] [] 0 false true) anyLoop 140 (by kernel_rfl) hp h
theorem rgt_n_ttffftftf {b:List UInt8} {k:Int} {Q:V→Aev.Rows→Prop} (hp:AllP [decide (k < (↑(List.length (bytesL b)):Int)) = true,decide (k < (↑(List.length (bytesL b)):Int)) = true,decide (k < (↑(List.length (bytesL b)):Int)) = true,decide (k < (10:Int)) = true,decide (k < (10:Int)) = true,decide (k < (10:Int)) = true,(0:Int) ≤ k∧k < (↑(List.length (bytesL b)):Int),(bytesL b)[Int.toNat k]? = some (D.int IntKind.u8 (↑(UInt8.toNat (List.getD b (Int.toNat k) (0:UInt8))):Int)),1 = 1,decide (k < (10:Int)) = true,decide (k < (10:Int)) = true,decide (k < (10:Int)) = true,decide ((↑(UInt8.toNat (List.getD b (Int.toNat k) (0:UInt8))):Int) ≥ (128:Int)) = false,(k == (10:Int)) = false,(k == (↑(List.length (bytesL b)):Int)) = false,(k == (9:Int)) = true,(k == (9:Int)) = true,(k == (9:Int)) = true,(0:Int) ≤ k∧k < (↑(List.length (bytesL b)):Int),(bytesL b)[Int.toNat k]? = some (D.int IntKind.u8 (↑(UInt8.toNat (List.getD b (Int.toNat k) (0:UInt8))):Int)),1 = 1,(k == (9:Int)) = true,(k == (9:Int)) = true,(k == (9:Int)) = true,decide ((↑(UInt8.toNat (List.getD b (Int.toNat k) (0:UInt8))):Int) > (1:Int)) = false,decide ((↑(UInt8.toNat (List.getD b (Int.toNat k) (0:UInt8))):Int) > (1:Int)) = false,decide ((↑(UInt8.toNat (List.getD b (Int.toNat k) (0:UInt8))):Int) > (1:Int)) = false,decide (k > (0:Int)) = true,decide (k > (0:Int)) = true,decide (k > (0:Int)) = true,(0:Int) ≤ k∧k < (↑(List.length (bytesL b)):Int),(bytesL b)[Int.toNat k]? = some (D.int IntKind.u8 (↑(UInt8.toNat (List.getD b (Int.toNat k) (0:UInt8))):Int)),1 = 1,decide (k > (0:Int)) = true,decide (k > (0:Int)) = true,decide ((↑(UInt8.toNat (List.getD b (Int.toNat k) (0:UInt8))):Int) > (1:Int)) = false,decide (k > (0:Int)) = true,decide ((↑(UInt8.toNat (List.getD b (Int.toNat k) (0:UInt8))):Int) > (1:Int)) = false,((↑(UInt8.toNat (List.getD b (Int.toNat k) (0:UInt8))):Int) == (0:Int)) = false]) (h:Ends c0 0 (hd 85 td85b 79 [(0,V.d (D.list (bytesL b))),(5,I k),(6,U64 0),(7,I k)] []) Q):Ends c0 0 (H85 b k) Q :=
  Ends.turn c0_ok (hints [(12,true),(16,true),(22,false),(26,false),(30,false),(33,true),(40,false),(43,true),(50,false)] [(17,elB (b)),(34,elB (b)),(44,elB (b))] [] 0 false true) anyLoop 140 [] [0,
 5,
 6,
 7] (by kernel_rfl) hp h
theorem rgt_n_ttfffftt {b:List UInt8} {k:Int} {Q:V→Aev.Rows→Prop} (hp:AllP [decide (k < (↑(List.length (bytesL b)):Int)) = true,decide (k < (↑(List.length (bytesL b)):Int)) = true,decide (k < (↑(List.length (bytesL b)):Int)) = true,decide (k < (10:Int)) = true,decide (k < (10:Int)) = true,decide (k < (10:Int)) = true,(0:Int) ≤ k∧k < (↑(List.length (bytesL b)):Int),(bytesL b)[Int.toNat k]? = some (D.int IntKind.u8 (↑(UInt8.toNat (List.getD b (Int.toNat k) (0:UInt8))):Int)),1 = 1,decide (k < (10:Int)) = true,decide (k < (10:Int)) = true,decide (k < (10:Int)) = true,decide ((↑(UInt8.toNat (List.getD b (Int.toNat k) (0:UInt8))):Int) ≥ (128:Int)) = false,(k == (10:Int)) = false,(k == (↑(List.length (bytesL b)):Int)) = false,(k == (9:Int)) = false,(k == (9:Int)) = false,(k == (9:Int)) = false,(k == (9:Int)) = false,(k == (9:Int)) = false,(k == (9:Int)) = false,decide (k > (0:Int)) = true,decide (k > (0:Int)) = true,decide (k > (0:Int)) = true,(0:Int) ≤ k∧k < (↑(List.length (bytesL b)):Int),(bytesL b)[Int.toNat k]? = some (D.int IntKind.u8 (↑(UInt8.toNat (List.getD b (Int.toNat k) (0:UInt8))):Int)),1 = 1,decide (k > (0:Int)) = true,decide (k > (0:Int)) = true,decide (k > (0:Int)) = true,((↑(UInt8.toNat (List.getD b (Int.toNat k) (0:UInt8))):Int) == (0:Int)) = true]) (h:Q (V.tup [I 0,I 0,I 11]) ([])):Ends c0 0 (H85 b k) Q :=
 Ends.toFin c0_ok (hints [(12,true),(16,true),(22,false),(26,false),(30,false),(33,false),(43,true),(50,true)] [(17,elB (b)),(44,elB (b))] [] 0 false true) anyLoop 140 (by kernel_rfl) hp h
theorem rgt_n_ttfffftf {b:List UInt8} {k:Int} {Q:V→Aev.Rows→Prop} (hp:AllP [decide (k < (↑(List.length (bytesL b)):Int)) = true,decide (k < (↑(List.length (bytesL b)):Int)) = true,decide (k < (↑(List.length (bytesL b)):Int)) = true,decide (k < (10:Int)) = true,decide (k < (10:Int)) = true,decide (k < (10:Int)) = true,(0:Int) ≤ k∧k < (↑(List.length (bytesL b)):Int),(bytesL b)[Int.toNat k]? = some (D.int IntKind.u8 (↑(UInt8.toNat (List.getD b (Int.toNat k) (0:UInt8))):Int)),1 = 1,decide (k < (10:Int)) = true,decide (k < (10:Int)) = true,decide (k < (10:Int)) = true,decide ((↑(UInt8.toNat (List.getD b (Int.toNat k) (0:UInt8))):Int) ≥ (128:Int)) = false,(k == (10:Int)) = false,(k == (↑(List.length (bytesL b)):Int)) = false,(k == (9:Int)) = false,(k == (9:Int)) = false,(k == (9:Int)) = false,(k == (9:Int)) = false,(k == (9:Int)) = false,(k == (9:Int)) = false,decide (k > (0:Int)) = true,decide (k > (0:Int)) = true,decide (k > (0:Int)) = true,(0:Int) ≤ k∧k < (↑(List.length (bytesL b)):Int),(bytesL b)[Int.toNat k]? = some (D.int IntKind.u8 (↑(UInt8.toNat (List.getD b (Int.toNat k) (0:UInt8))):Int)),1 = 1,decide (k > (0:Int)) = true,decide (k > (0:Int)) = true,decide (k > (0:Int)) = true,((↑(UInt8.toNat (List.getD b (Int.toNat k) (0:UInt8))):Int) == (0:Int)) = false]) (h:Ends c0 0 (hd 85 td85b 79 [(0,V.d (D.list (bytesL b))),(5,I k),(6,U64 0),(7,I k)] []) Q):Ends c0 0 (H85 b k) Q :=
  Ends.turn c0_ok (hints [(12,true),(16,true),(22,false),(26,false),(30,false),(33,false),(43,true),(50,false)] [(17,elB (b)),(44,elB (b))] [] 0 false true) anyLoop 140 [] [0,
 5,
 6,
 7] (by kernel_rfl) hp h
theorem rgt_n_ttfffff {b:List UInt8} {k:Int} {Q:V→Aev.Rows→Prop} (hp:AllP [decide (k < (↑(List.length (bytesL b)):Int)) = true,decide (k < (↑(List.length (bytesL b)):Int)) = true,decide (k < (↑(List.length (bytesL b)):Int)) = true,decide (k < (10:Int)) = true,decide (k < (10:Int)) = true,decide (k < (10:Int)) = true,(0:Int) ≤ k∧k < (↑(List.length (bytesL b)):Int),(bytesL b)[Int.toNat k]? = some (D.int IntKind.u8 (↑(UInt8.toNat (List.getD b (Int.toNat k) (0:UInt8))):Int)),1 = 1,decide (k < (10:Int)) = true,decide (k < (10:Int)) = true,decide (k < (10:Int)) = true,decide ((↑(UInt8.toNat (List.getD b (Int.toNat k) (0:UInt8))):Int) ≥ (128:Int)) = false,(k == (10:Int)) = false,(k == (↑(List.length (bytesL b)):Int)) = false,(k == (9:Int)) = false,(k == (9:Int)) = false,(k == (9:Int)) = false,(k == (9:Int)) = false,(k == (9:Int)) = false,(k == (9:Int)) = false,decide (k > (0:Int)) = false,decide (k > (0:Int)) = false,decide (k > (0:Int)) = false,decide (k > (0:Int)) = false,decide (k > (0:Int)) = false,decide (k > (0:Int)) = false]) (h:Ends c0 0 (hd 85 td85b 79 [(0,V.d (D.list (bytesL b))),(5,I k),(6,U64 0),(7,I k)] []) Q):Ends c0 0 (H85 b k) Q :=
  Ends.turn c0_ok (hints [(12,true),(16,true),(22,false),(26,false),(30,false),(33,false),(43,false)] [(17,elB (b))] [] 0 false true) anyLoop 140 [] [0,
 5,
 6,
 7] (by kernel_rfl) hp h
theorem rgt_n_tft {b:List UInt8} {k:Int} {Q:V→Aev.Rows→Prop} (hp:AllP [decide (k < (↑(List.length (bytesL b)):Int)) = true,decide (k < (↑(List.length (bytesL b)):Int)) = true,decide (k < (↑(List.length (bytesL b)):Int)) = true,decide (k < (10:Int)) = false,decide (k < (10:Int)) = false,decide (k < (10:Int)) = false,decide (k < (10:Int)) = false,decide (k < (10:Int)) = false,decide (k < (10:Int)) = false,(k == (10:Int)) = true]) (h:Q (V.tup [I 0,I 0,I 11]) ([])):Ends c0 0 (H85 b k) Q :=
 Ends.toFin c0_ok (hints [(12,true),(16,false),(26,true)] [] [] 0 false true) anyLoop 140 (by kernel_rfl) hp h
theorem rgt_n_ft {b:List UInt8} {k:Int} {Q:V→Aev.Rows→Prop} (hp:AllP [decide (k < (↑(List.length (bytesL b)):Int)) = false,decide (k < (↑(List.length (bytesL b)):Int)) = false,decide (k < (↑(List.length (bytesL b)):Int)) = false,(k == (10:Int)) = true]) (h:Q (V.tup [I 0,I 0,I 11]) ([])):Ends c0 0 (H85 b k) Q :=
 Ends.toFin c0_ok (hints [(12,false),(26,true)] [] [] 0 false true) anyLoop 140 (by kernel_rfl) hp h
theorem rgt_n_fft {b:List UInt8} {k:Int} {Q:V→Aev.Rows→Prop} (hp:AllP [decide (k < (↑(List.length (bytesL b)):Int)) = false,decide (k < (↑(List.length (bytesL b)):Int)) = false,decide (k < (↑(List.length (bytesL b)):Int)) = false,(k == (10:Int)) = false,(k == (↑(List.length (bytesL b)):Int)) = true]) (h:Q (V.tup [I 0,I 0,I 10]) ([])):Ends c0 0 (H85 b k) Q :=
 Ends.toFin c0_ok (hints [(12,false),(26,false),(30,true)] [] [] 0 false true) anyLoop 140 (by kernel_rfl) hp h
theorem rgt_b_t {b:List UInt8} {k z j:Int} {Q:V→Aev.Rows→Prop} (hp:AllP [decide (j ≥ (0:Int)) = true,(0:Int) ≤ j∧j < (↑(List.length (bytesL b)):Int),(bytesL b)[Int.toNat j]? = some (D.int IntKind.u8 (↑(UInt8.toNat (List.getD b (Int.toNat j) (0:UInt8))):Int)),1 = 1,IntKind.u8 = IntKind.u8,(128:Int) ≠ (0:Int),inInt (j - (1:Int))]) (h:Ends c0 0 (hd 85 td85b 79 [(0,V.d (D.list (bytesL b))),(5,I k),(6,U64 (IntKind.wrap IntKind.u64 (IntKind.wrap IntKind.u64 (z * (128:Int)) + IntKind.wrap IntKind.u64 (Int.tmod (↑(UInt8.toNat (List.getD b (Int.toNat j) (0:UInt8))):Int) (128:Int))))),(7,I (j - (1:Int)))] []) Q):Ends c0 0 (H85b b k z j) Q :=
 Ends.turn c0_ok (hints [(53,true)] [(58,elB (b))] [] 0 false true) anyLoop 140 [] [0,5,6,7] (by kernel_rfl) hp h
theorem rgt_b_ft {b:List UInt8} {k z j:Int} {Q:V→Aev.Rows→Prop} (hp:AllP [decide (j ≥ (0:Int)) = false,IntKind.u64 = IntKind.u64,(2:Int) ≠ (0:Int),(Int.tmod z (2:Int) == (1:Int)) = true,IntKind.u64 = IntKind.u64,(2:Int) ≠ (0:Int),inInt ((-1:Int) - IntKind.wrap IntKind.i64 (IntKind.wrap IntKind.u64 (Int.tdiv z (2:Int)))),inInt (k + (1:Int))]) (h:Q (V.tup [I ((-1:Int) - IntKind.wrap IntKind.i64 (IntKind.wrap IntKind.u64 (Int.tdiv z (2:Int)))),I (k + (1:Int)),I 0]) ([])):Ends c0 0 (H85b b k z j) Q :=
 Ends.toFin c0_ok (hints [(53,false),(67,true)] [] [] 0 false true) anyLoop 140 (by kernel_rfl) hp h
theorem rgt_b_ff {b:List UInt8} {k z j:Int} {Q:V→Aev.Rows→Prop} (hp:AllP [decide (j ≥ (0:Int)) = false,IntKind.u64 = IntKind.u64,(2:Int) ≠ (0:Int),(Int.tmod z (2:Int) == (1:Int)) = false,IntKind.u64 = IntKind.u64,(2:Int) ≠ (0:Int),inInt (k + (1:Int))]) (h:Q (V.tup [I (IntKind.wrap IntKind.i64 (IntKind.wrap IntKind.u64 (Int.tdiv z (2:Int)))),I (k + (1:Int)),I 0]) ([])):Ends c0 0 (H85b b k z j) Q :=
 Ends.toFin c0_ok (hints [(53,false),(67,false)] [] [] 0 false true) anyLoop 140 (by kernel_rfl) hp h
end Go.Aev.M44
end
section
namespace Go.Aev.M44
set_option maxRecDepth 1000000
open Go Go.Aev
theorem ref_acc {z c:Nat} (h:z * 128 + c % 128 < 18446744073709551616):IntKind.u64.wrap (IntKind.u64.wrap ((z:Int) * 128) + IntKind.u64.wrap (Int.tmod (c:Int) 128)) = ((z * 128 + c % 128:Nat):Int):=by
 rw [w64,w64,w64,Int.tmod_eq_emod_of_nonneg (by omega)]; omega
theorem pow7 (n:Nat):2 ^ (7 * n) = 128 ^ n:=by rw [Nat.pow_mul]
theorem uz_ref_odd {z:Nat} (h:z < 18446744073709551616) (h1:z % 2 = 1):(-1:Int) - IntKind.i64.wrap (IntKind.u64.wrap (Int.tdiv (z:Int) 2)) = uz z:=by
 rw [Int.tdiv_eq_ediv_of_nonneg (by omega),w64,wi64]; unfold uz; rw [if_pos h1]; omega
theorem uz_ref_even {z:Nat} (h:z < 18446744073709551616) (h1:¬ z % 2 = 1):IntKind.i64.wrap (IntKind.u64.wrap (Int.tdiv (z:Int) 2)) = uz z:=by
 rw [Int.tdiv_eq_ediv_of_nonneg (by omega),w64,wi64]; unfold uz; rw [if_neg h1]; omega
theorem mod2 (z:Nat):Int.tmod (z:Int) 2 = ((z % 2:Nat):Int):=by rw [Int.tmod_eq_emod_of_nonneg (by omega)]; omega
theorem ref_back (b:Bs) (hb:short b.length) (k:Nat) (hk:k ≤ 9):∀ (n z:Nat),n ≤ b.length→z * 128 ^ n + low b n < 18446744073709551616 →
  Ends c0 0 (H85b b (k:Nat) (z:Nat) ((n:Int) - 1)) (Reads (.ok (uz (z * 128 ^ n + low b n),k + 1))):=by
 intro n
 unfold short at hb
 induction n with
 | zero =>
  intro z hn hz
  have hz':z < 18446744073709551616:=by simp [low] at hz; omega
  have e:z * 128 ^ 0 + low b 0 = z:=by simp [low]
  rw [e]
  by_cases h1:z % 2 = 1
  ·have eu:=uz_ref_odd hz' h1
   have hu:=uz_in hz'
   refine rgt_b_ft (by rw [mod2,eu]; unfold in64 at hu; (try simp only [AllP,Int.toNat_natCast,bytesL_len,decide_eq_true_eq,decide_eq_false_iff_not,beq_eq_false_iff_ne,beq_iff_eq,bne_iff_ne,bne_eq_false_iff_eq,Bool.not_eq_true',Bool.not_eq_false',Int.not_lt,Int.not_le,gt_iff_lt,ge_iff_le,ne_eq,and_true,true_and]); all_goals (repeat' (first | with_reducible assumption | with_reducible rfl | omega | with_reducible exact bytes_get (by omega) | with_reducible apply And.intro | unfold inInt | decide))) ?_
   rw [eu]; rfl
  ·have eu:=uz_ref_even hz' h1
   refine rgt_b_ff (by rw [mod2]; (try simp only [AllP,Int.toNat_natCast,bytesL_len,decide_eq_true_eq,decide_eq_false_iff_not,beq_eq_false_iff_ne,beq_iff_eq,bne_iff_ne,bne_eq_false_iff_eq,Bool.not_eq_true',Bool.not_eq_false',Int.not_lt,Int.not_le,gt_iff_lt,ge_iff_le,ne_eq,and_true,true_and]); all_goals (repeat' (first | with_reducible assumption | with_reducible rfl | omega | with_reducible exact bytes_get (by omega) | with_reducible apply And.intro | unfold inInt | decide))) ?_
   rw [eu]; rfl
 | succ n ih =>
  intro z hn hz
  have ej:(((n + 1:Nat):Int) - 1) = ((n:Nat):Int):=by omega
  rw [ej]
  have el:z * 128 ^ (n + 1) + low b (n + 1) = (z * 128 + (b.getD n 0).toNat % 128) * 128 ^ n + low b n:=by
   show z * 128 ^ (n + 1) + (low b n + (b.getD n 0).toNat % 128 * 2 ^ (7 * n)) = _
   rw [pow7,Nat.pow_succ,Nat.add_mul,Nat.mul_assoc,Nat.mul_comm 128]; omega
  rw [el] at hz ⊢
  have hacc:z * 128 + (b.getD n 0).toNat % 128 < 18446744073709551616:=by
   have h1:1 ≤ 128 ^ n:=Nat.pow_pos (by omega)
   have:=Nat.mul_le_mul_left (z * 128 + (b.getD n 0).toNat % 128) h1
   omega
  refine rgt_b_t (by (try simp only [AllP,Int.toNat_natCast,bytesL_len,decide_eq_true_eq,decide_eq_false_iff_not,beq_eq_false_iff_ne,beq_iff_eq,bne_iff_ne,bne_eq_false_iff_eq,Bool.not_eq_true',Bool.not_eq_false',Int.not_lt,Int.not_le,gt_iff_lt,ge_iff_le,ne_eq,and_true,true_and]); all_goals (repeat' (first | with_reducible assumption | with_reducible rfl | omega | with_reducible exact bytes_get (by omega) | with_reducible apply And.intro | unfold inInt | decide))) ?_
  rw [Int.toNat_natCast,ref_acc hacc]
  exact ih _ (by omega) hz
theorem ref_good {b:Bs} (hb:short b.length) {k:Nat} (h1:k ≤ lead b) (hk:k < b.length) (h9:k ≤ 9) (hc:(b.getD k 0).toNat < 128) (hc9:k = 9→(b.getD k 0).toNat ≤ 1) (h0:0 < k→(b.getD k 0).toNat ≠ 0) :
  Ends c0 0 (H85b b (k:Nat) 0 (k:Nat)) (Reads (gInt b)):=by
 rw [gInt_good h1 hk h9 hc hc9 h0]
 obtain ⟨a1,a2,a3⟩:=acc_step (c:=b.getD k 0) (low_lt b k) h9 hc9
 have hl:low b (k + 1) < 18446744073709551616:=a2
 have:=ref_back b hb k h9 (k + 1) 0 (by omega) (by omega)
 rw [Nat.zero_mul,Nat.zero_add] at this
 have ej:(((k + 1:Nat):Int) - 1) = ((k:Nat):Int):=by omega
 rw [ej] at this
 exact this
theorem ref_loop (b:Bs) (hb:short b.length):∀ (n k:Nat),k + n = 10→k ≤ lead b→Ends c0 0 (H85 b (k:Nat)) (Reads (gInt b)):=by
 intro n
 have hb':=hb
 unfold short at hb
 induction n with
 | zero =>
  intro k hn h1
  have hk:k = 10:=by omega
  subst hk
  have e:gInt b = .error 11:=by unfold gInt; rw [if_pos h1]
  rw [e]
  have hl:=lead_le b
  by_cases hk:10 < b.length
  ·exact rgt_n_tft (by (try simp only [AllP,Int.toNat_natCast,bytesL_len,decide_eq_true_eq,decide_eq_false_iff_not,beq_eq_false_iff_ne,beq_iff_eq,bne_iff_ne,bne_eq_false_iff_eq,Bool.not_eq_true',Bool.not_eq_false',Int.not_lt,Int.not_le,gt_iff_lt,ge_iff_le,ne_eq,and_true,true_and]); all_goals (repeat' (first | with_reducible assumption | with_reducible rfl | omega | with_reducible exact bytes_get (by omega) | with_reducible apply And.intro | unfold inInt | decide))) rfl
  ·exact rgt_n_ft (by (try simp only [AllP,Int.toNat_natCast,bytesL_len,decide_eq_true_eq,decide_eq_false_iff_not,beq_eq_false_iff_ne,beq_iff_eq,bne_iff_ne,bne_eq_false_iff_eq,Bool.not_eq_true',Bool.not_eq_false',Int.not_lt,Int.not_le,gt_iff_lt,ge_iff_le,ne_eq,and_true,true_and]); all_goals (repeat' (first | with_reducible assumption | with_reducible rfl | omega | with_reducible exact bytes_get (by omega) | with_reducible apply And.intro | unfold inInt | decide))) rfl
 | succ n ih =>
  intro k hn h1
  have hcl:(b.getD k 0).toNat < 256:=(b.getD k 0).toNat_lt
  by_cases hk:k < b.length
  ·by_cases hc:(b.getD k 0).toNat < 128
   ·by_cases k9:k = 9
    ·by_cases hc1:1 < (b.getD k 0).toNat
     ·subst k9
      rw [gInt_bad9 h1 hk hc1]
      exact rgt_n_ttffftt (by (try simp only [AllP,Int.toNat_natCast,bytesL_len,decide_eq_true_eq,decide_eq_false_iff_not,beq_eq_false_iff_ne,beq_iff_eq,bne_iff_ne,bne_eq_false_iff_eq,Bool.not_eq_true',Bool.not_eq_false',Int.not_lt,Int.not_le,gt_iff_lt,ge_iff_le,ne_eq,and_true,true_and]); all_goals (repeat' (first | with_reducible assumption | with_reducible rfl | omega | with_reducible exact bytes_get (by omega) | with_reducible apply And.intro | unfold inInt | decide))) rfl
     ·by_cases hc0:(b.getD k 0).toNat = 0
      ·rw [gInt_bad0 h1 hk (by omega) (by omega) hc0]
       exact rgt_n_ttffftftt (by (try simp only [AllP,Int.toNat_natCast,bytesL_len,decide_eq_true_eq,decide_eq_false_iff_not,beq_eq_false_iff_ne,beq_iff_eq,bne_iff_ne,bne_eq_false_iff_eq,Bool.not_eq_true',Bool.not_eq_false',Int.not_lt,Int.not_le,gt_iff_lt,ge_iff_le,ne_eq,and_true,true_and]); all_goals (repeat' (first | with_reducible assumption | with_reducible rfl | omega | with_reducible exact bytes_get (by omega) | with_reducible apply And.intro | unfold inInt | decide))) rfl
      ·refine rgt_n_ttffftftf (by (try simp only [AllP,Int.toNat_natCast,bytesL_len,decide_eq_true_eq,decide_eq_false_iff_not,beq_eq_false_iff_ne,beq_iff_eq,bne_iff_ne,bne_eq_false_iff_eq,Bool.not_eq_true',Bool.not_eq_false',Int.not_lt,Int.not_le,gt_iff_lt,ge_iff_le,ne_eq,and_true,true_and]); all_goals (repeat' (first | with_reducible assumption | with_reducible rfl | omega | with_reducible exact bytes_get (by omega) | with_reducible apply And.intro | unfold inInt | decide))) ?_
       exact ref_good hb' h1 hk (by omega) hc (fun _=>by omega) (fun _=>hc0)
    ·by_cases k0:k = 0
     ·refine rgt_n_ttfffff (by (try simp only [AllP,Int.toNat_natCast,bytesL_len,decide_eq_true_eq,decide_eq_false_iff_not,beq_eq_false_iff_ne,beq_iff_eq,bne_iff_ne,bne_eq_false_iff_eq,Bool.not_eq_true',Bool.not_eq_false',Int.not_lt,Int.not_le,gt_iff_lt,ge_iff_le,ne_eq,and_true,true_and]); all_goals (repeat' (first | with_reducible assumption | with_reducible rfl | omega | with_reducible exact bytes_get (by omega) | with_reducible apply And.intro | unfold inInt | decide))) ?_
      exact ref_good hb' h1 hk (by omega) hc (fun _=>by omega) (fun _=>by omega)
     ·by_cases hc0:(b.getD k 0).toNat = 0
      ·rw [gInt_bad0 h1 hk (by omega) (by omega) hc0]
       exact rgt_n_ttfffftt (by (try simp only [AllP,Int.toNat_natCast,bytesL_len,decide_eq_true_eq,decide_eq_false_iff_not,beq_eq_false_iff_ne,beq_iff_eq,bne_iff_ne,bne_eq_false_iff_eq,Bool.not_eq_true',Bool.not_eq_false',Int.not_lt,Int.not_le,gt_iff_lt,ge_iff_le,ne_eq,and_true,true_and]); all_goals (repeat' (first | with_reducible assumption | with_reducible rfl | omega | with_reducible exact bytes_get (by omega) | with_reducible apply And.intro | unfold inInt | decide))) rfl
      ·refine rgt_n_ttfffftf (by (try simp only [AllP,Int.toNat_natCast,bytesL_len,decide_eq_true_eq,decide_eq_false_iff_not,beq_eq_false_iff_ne,beq_iff_eq,bne_iff_ne,bne_eq_false_iff_eq,Bool.not_eq_true',Bool.not_eq_false',Int.not_lt,Int.not_le,gt_iff_lt,ge_iff_le,ne_eq,and_true,true_and]); all_goals (repeat' (first | with_reducible assumption | with_reducible rfl | omega | with_reducible exact bytes_get (by omega) | with_reducible apply And.intro | unfold inInt | decide))) ?_
       exact ref_good hb' h1 hk (by omega) hc (fun _=>by omega) (fun _=>hc0)
   ·refine rgt_n_ttt (by (try simp only [AllP,Int.toNat_natCast,bytesL_len,decide_eq_true_eq,decide_eq_false_iff_not,beq_eq_false_iff_ne,beq_iff_eq,bne_iff_ne,bne_eq_false_iff_eq,Bool.not_eq_true',Bool.not_eq_false',Int.not_lt,Int.not_le,gt_iff_lt,ge_iff_le,ne_eq,and_true,true_and]); all_goals (repeat' (first | with_reducible assumption | with_reducible rfl | omega | with_reducible exact bytes_get (by omega) | with_reducible apply And.intro | unfold inInt | decide))) ?_
    exact ih (k + 1) (by omega) (lead_on h1 hk hc)
  ·rw [gInt_end h1 (by omega) (by omega)]
   have hl:=lead_le b
   exact rgt_n_fft (by (try simp only [AllP,Int.toNat_natCast,bytesL_len,decide_eq_true_eq,decide_eq_false_iff_not,beq_eq_false_iff_ne,beq_iff_eq,bne_iff_ne,bne_eq_false_iff_eq,Bool.not_eq_true',Bool.not_eq_false',Int.not_lt,Int.not_le,gt_iff_lt,ge_iff_le,ne_eq,and_true,true_and]); all_goals (repeat' (first | with_reducible assumption | with_reducible rfl | omega | with_reducible exact bytes_get (by omega) | with_reducible apply And.intro | unfold inInt | decide))) rfl
theorem ref_get (b:Bs) (hb:short b.length):RCs PP 85 [LB b] [] (gV (gInt b)) :=
 rcs_of c0_ok (by kernel_rfl) (rgt_0_ (by (try simp only [AllP,Int.toNat_natCast,bytesL_len,decide_eq_true_eq,decide_eq_false_iff_not,beq_eq_false_iff_ne,beq_iff_eq,bne_iff_ne,bne_eq_false_iff_eq,Bool.not_eq_true',Bool.not_eq_false',Int.not_lt,Int.not_le,gt_iff_lt,ge_iff_le,ne_eq,and_true,true_and]); all_goals (repeat' (first | with_reducible assumption | with_reducible rfl | omega | with_reducible exact bytes_get (by omega) | with_reducible apply And.intro | unfold inInt | decide))) (ref_loop b hb 10 0 rfl (Nat.zero_le _)))
end Go.Aev.M44
end
section
namespace Go.Aev.M44
set_option maxRecDepth 1000000
open Go Go.Aev
def isB (es:List D):Prop:=es = bytesL (es.map unB)
theorem isB_bytes (l:Bs):isB (bytesL l):=by unfold isB; rw [unB_bytes]
def lV:Except Nat (Nat × Nat)→V
 | .ok (n,u)=>.tup [I (n:Int),I (u:Int),I 0]
 | .error e=>.tup [I 0,I 0,I (e:Int)]
def strD (s:Bs):D:=.str ⟨s.toArray⟩
def bV:Except Nat (Bs × Nat)→V
 | .ok (s,u)=>.tup [.d (strD s),I (u:Int),I 0]
 | .error e=>.tup [.d (strD []),I 0,I (e:Int)]
noncomputable def tabG (r:Except Nat (Int × Nat)) (g:FuncId) (args:List V) (rows:Aev.Rows):Option (List Prop × V) :=
 match g,args with
 | 80,[v]=>match listOf rows v with
  | some (ps,es)=>some (ps ++ [isB es,short es.length,gInt (es.map unB) = r],gV r)
  | none=>none
 | 85,[v]=>match listOf rows v with
  | some (ps,es)=>some (ps ++ [isB es,short es.length,gInt (es.map unB) = r],gV r)
  | none=>none
 | 90,[.d (.int .i64 n)]=>some ([in64 n],LB (enc n))
 | 93,[.d (.int .i64 n)]=>some ([in64 n],LB (enc n))
 | _,_=>none
noncomputable def cG (r:Except Nat (Int × Nat)):SCfg:=mk (fun _=>true) (tabG r)
theorem tabG_ok {r:Except Nat (Int × Nat)} {g:FuncId} {args:List V} {rows:Aev.Rows} {ps:List Prop} {v:V} (h:tabG r g args rows = some (ps,v)) (hp:AllP ps):RCs PP g args rows v:=by
 unfold tabG at h
 split at h
 ·split at h
  ·rename_i qs es hl
   cases h
   obtain ⟨h1,h2,h3,h4,_⟩:=AllP_append hp
   have:=wire_get (es.map unB) (by rw [List.length_map]; exact h3)
   rw [h4] at this
   refine this.of_lists (.cons ?_ .nil)
   have e:LB (es.map unB) = .d (.list es):=by unfold isB at h2; rw [LB,← h2]
   rw [e]; exact .list hl h1
  ·cases h
 ·split at h
  ·rename_i qs es hl
   cases h
   obtain ⟨h1,h2,h3,h4,_⟩:=AllP_append hp
   have:=ref_get (es.map unB) (by rw [List.length_map]; exact h3)
   rw [h4] at this
   refine this.of_lists (.cons ?_ .nil)
   have e:LB (es.map unB) = .d (.list es):=by unfold isB at h2; rw [LB,← h2]
   rw [e]; exact .list hl h1
  ·cases h
 ·cases h
  exact (wire_int hp.1).of_lists (.cons (.data _) .nil)
 ·cases h
  exact (ref_int hp.1).of_lists (.cons (.data _) .nil)
 ·cases h
theorem cG_ok (r:Except Nat (Int × Nat)):COK (cG r).cfg:=mk_ok fun g args rows ps v h hp=>tabG_ok h hp
end Go.Aev.M44
end
section
namespace Go.Aev.M44
set_option maxRecDepth 1000000
open Go Go.Aev
def toCall (t:Nat) (s:AS):Bool:=match s.fr.todo with
 | .it (.inRegion ops (_ :: j :: _)) :: _=>match ops[j]? with
  | some o=>match o.dst with
   | some d=>Nat.beq d t
   | none=>false
  | none=>false
 | _=>false
def afterN (s:AS) (v:V) (rows:Aev.Rows):AS:=(newAt s v rows).getD s
theorem Ends.callB {c:SCfg} (hc:COK c.cfg) {k:Nat} {s:AS} {Q:V→Aev.Rows→Prop} {g:FuncId} {ar:List V} {l:Bs} (hat:callAt c.cfg s = some (g,ar,[],[]))
  (hd:Does c.P g 0 ar [] (NewB l)) (hb:(newAt s (outV l) (outR l)).isSome = true) (h:Ends c k (afterN s (outV l) (outR l)) Q):Ends c k s Q:=by
 refine Ends.callN hc hat hd ?_
 rintro v rows ⟨rfl,rfl⟩
 obtain ⟨s',hs⟩:=Option.isSome_iff_exists.1 hb
 unfold afterN at h
 rw [hs] at h
 exact ⟨s',hs,h⟩
end Go.Aev.M44
namespace Go.Aev.M44
open Go Go.Aev
def strs (l:List Bs):List D:=l.map strD
def elS (l:List Bs):Nat→D:=fun i=>strD (l.getD i [])
noncomputable def cW:SCfg:=cG (.error 0)
theorem cW_ok:COK cW.cfg:=cG_ok _
end Go.Aev.M44
end
section
set_option maxRecDepth 1000000
set_option linter.unusedVariables false
namespace Go.Aev.M44
open Go Go.Aev
noncomputable def C89 (l:List Int):AS:=nextOf (sTo cW (hints []) (toCall 10) 300 (start cW 89 [L l,.fn 90 []] []))
noncomputable def td89:List AItem:=(nextOf (sTo cW (hints []) anyLoop 300 (afterN (C89 []) (outV [0]) (outR [0])))).fr.todo
noncomputable def H89 (l:List Int) (o:List UInt8) (k:Int):AS:=hd 89 td89 24 [(1,.fn 90 []),(5,outV o),(11,L l),(12,I (ints l).length),(13,I k)] (outR o)
noncomputable def C34 (l:List Int):AS:=nextOf (sTo cW (hints []) (toCall 7) 300 (start cW 34 [L l] []))
noncomputable def td34:List AItem:=(nextOf (sTo cW (hints []) anyLoop 300 (afterN (C34 []) (outV [0]) (outR [0])))).fr.todo
noncomputable def H34 (l:List Int) (o:List UInt8) (k:Int):AS:=hd 34 td34 22 [(0,L l),(3,outV o),(4,I k)] (outR o)
end Go.Aev.M44
namespace Go.Aev.M44
theorem lst_0_ {l:List Int} {o:List UInt8} {Q:V→Aev.Rows→Prop} (hp:AllP []) (h:Ends cW 0 (hd 89 td89 24 [(1,V.fn (90) []),(5,V.sl (0) (1) (0) o.length o.length false),(11,V.d (D.list (ints l))),(12,I (↑(List.length (ints l)):Int)),(13,I 0)] [Slot.live (Row.dat (1) (bytesL o) false)]) Q):Ends cW 0 (afterN (C89 l) (outV o) (outR o)) Q :=
 Ends.turn cW_ok (hints [] [] [] 0 false true) anyLoop 140 [0] [1,5,11,12,13] (by kernel_rfl) hp h
theorem lst_t {l:List Int} {o:List UInt8} {k:Int} {Q:V→Aev.Rows→Prop} (hp:AllP [decide (k < (↑(List.length (ints l)):Int)) = true,(0:Int) ≤ k∧k < (↑(List.length (ints l)):Int),(ints l)[Int.toNat k]? = some (D.int IntKind.i64 (List.getD l (Int.toNat k) (0:Int))),1 = 1,in64 (List.getD l (Int.toNat k) (0:Int)),(List.all (bytesL (enc (List.getD l (Int.toNat k) (0:Int)))) fun e=>List.length (D.cells e) == 1) = true,0 < 1∧List.length (bytesL (enc (List.getD l (Int.toNat k) (0:Int)))) ≠ 0∧1 = 1∧1 = 1∧0 + List.length o ≤ List.length (bytesL o)∧¬List.length o + List.length (bytesL (enc (List.getD l (Int.toNat k) (0:Int)))) ≤ List.length o∧2 * (List.length o + List.length (bytesL (enc (List.getD l (Int.toNat k) (0:Int))))) * 1 ≤ 281474976710656∧List.length o + List.length (bytesL (enc (List.getD l (Int.toNat k) (0:Int)))) ≤ 4611686018427387904,inInt (k + (1:Int))]) (h:Ends cW 0 (hd 89 td89 24 [(1,V.fn (90) []),(5,V.sl (0) (1) (0) (List.length o + List.length (bytesL (enc (List.getD l (Int.toNat k) (0:Int))))) (List.length o + List.length (bytesL (enc (List.getD l (Int.toNat k) (0:Int))))) false),(11,V.d (D.list (ints l))),(12,I (↑(List.length (ints l)):Int)),(13,I (k + (1:Int)))] [Slot.live (Row.dat (1) (List.take o.length (List.drop (0) (bytesL o)) ++ bytesL (enc (List.getD l (Int.toNat k) (0:Int)))) false)]) Q):Ends cW 0 (H89 l o k) Q :=
  Ends.turn cW_ok (hints [(14,true)] [(11,elI (l))] [] 1 false true) anyLoop 140 [1] [1,
 5,
 11,
 12,
 13] (by kernel_rfl) hp h
theorem lst_f {l:List Int} {o:List UInt8} {k:Int} {Q:V→Aev.Rows→Prop} (hp:AllP [decide (k < (↑(List.length (ints l)):Int)) = false]) (h:Q (V.sl (0) (1) (0) o.length o.length false) ([Slot.live (Row.dat (1) (bytesL o) false)])):Ends cW 0 (H89 l o k) Q :=
 Ends.toFin cW_ok (hints [(14,false)] [] [] 0 false true) anyLoop 140 (by kernel_rfl) hp h
theorem rls_0_ {l:List Int} {o:List UInt8} {Q:V→Aev.Rows→Prop} (hp:AllP []) (h:Ends cW 0 (hd 34 td34 22 [(0,V.d (D.list (ints l))),(3,V.sl (0) (1) (0) o.length o.length false),(4,I 0)] [Slot.live (Row.dat (1) (bytesL o) false)]) Q):Ends cW 0 (afterN (C34 l) (outV o) (outR o)) Q :=
 Ends.turn cW_ok (hints [] [] [] 0 false true) anyLoop 140 [0] [0,3,4] (by kernel_rfl) hp h
theorem rls_t {l:List Int} {o:List UInt8} {k:Int} {Q:V→Aev.Rows→Prop} (hp:AllP [decide (k < (↑(List.length (ints l)):Int)) = true,(0:Int) ≤ k∧k < (↑(List.length (ints l)):Int),(ints l)[Int.toNat k]? = some (D.int IntKind.i64 (List.getD l (Int.toNat k) (0:Int))),1 = 1,in64 (List.getD l (Int.toNat k) (0:Int)),(List.all (bytesL (enc (List.getD l (Int.toNat k) (0:Int)))) fun e=>List.length (D.cells e) == 1) = true,0 < 1∧List.length (bytesL (enc (List.getD l (Int.toNat k) (0:Int)))) ≠ 0∧1 = 1∧1 = 1∧0 + List.length o ≤ List.length (bytesL o)∧¬List.length o + List.length (bytesL (enc (List.getD l (Int.toNat k) (0:Int)))) ≤ List.length o∧2 * (List.length o + List.length (bytesL (enc (List.getD l (Int.toNat k) (0:Int))))) * 1 ≤ 281474976710656∧List.length o + List.length (bytesL (enc (List.getD l (Int.toNat k) (0:Int)))) ≤ 4611686018427387904,inInt (k + (1:Int))]) (h:Ends cW 0 (hd 34 td34 22 [(0,V.d (D.list (ints l))),(3,V.sl (0) (1) (0) (List.length o + List.length (bytesL (enc (List.getD l (Int.toNat k) (0:Int))))) (List.length o + List.length (bytesL (enc (List.getD l (Int.toNat k) (0:Int))))) false),(4,I (k + (1:Int)))] [Slot.live (Row.dat (1) (List.take o.length (List.drop (0) (bytesL o)) ++ bytesL (enc (List.getD l (Int.toNat k) (0:Int)))) false)]) Q):Ends cW 0 (H34 l o k) Q :=
 Ends.turn cW_ok (hints [(11,true)] [(15,elI (l))] [] 1 false true) anyLoop 140 [1] [0,3,4] (by kernel_rfl) hp h
theorem rls_f {l:List Int} {o:List UInt8} {k:Int} {Q:V→Aev.Rows→Prop} (hp:AllP [decide (k < (↑(List.length (ints l)):Int)) = false]) (h:Q (V.sl (0) (1) (0) o.length o.length false) ([Slot.live (Row.dat (1) (bytesL o) false)])):Ends cW 0 (H34 l o k) Q :=
 Ends.toFin cW_ok (hints [(11,false)] [] [] 0 false true) anyLoop 140 (by kernel_rfl) hp h
end Go.Aev.M44
end
section
set_option maxRecDepth 1000000
set_option linter.unusedVariables false
namespace Go.Aev.M44
open Go Go.Aev
end Go.Aev.M44
namespace Go.Aev.M44
theorem len_e_t {e:Nat} {b:List UInt8} {m:Int} {Q:V→Aev.Rows→Prop} (hp:AllP [isB (bytesL b),short (List.length (bytesL b)),gInt (List.map unB (bytesL b)) = Except.error e,((↑e:Int) != (0:Int)) = true]) (h:Q (V.tup [I 0,I 0,I (↑e:Int)]) ([])):Ends (cG (.error e)) 0 (start (cG (.error e)) 162 [LB b,I m] []) Q :=
 Ends.toFin (cG_ok (.error e)) (hints [(16,true)] [] [] 0 false true) anyLoop 140 (by kernel_rfl) hp h
theorem len_k_t {n:Int} {u:Nat} {b:List UInt8} {m:Int} {Q:V→Aev.Rows→Prop} (hp:AllP [isB (bytesL b),short (List.length (bytesL b)),gInt (List.map unB (bytesL b)) = Except.ok (n,u),decide (n < (0:Int)) = true]) (h:Q (V.tup [I 0,I 0,I 11]) ([])):Ends (cG (.ok (n,u))) 0 (start (cG (.ok (n,u))) 162 [LB b,I m] []) Q :=
 Ends.toFin (cG_ok (.ok (n,u))) (hints [(20,true)] [] [] 0 false true) anyLoop 140 (by kernel_rfl) hp h
theorem len_k_ft {n:Int} {u:Nat} {b:List UInt8} {m:Int} {Q:V→Aev.Rows→Prop} (hp:AllP [isB (bytesL b),short (List.length (bytesL b)),gInt (List.map unB (bytesL b)) = Except.ok (n,u),decide (n < (0:Int)) = false,inInt ((↑(List.length (bytesL b)):Int) - (↑u:Int)),IntKind.i64 = IntKind.i64,m ≠ (0:Int),decide (n > IntKind.wrap IntKind.i64 (Int.tdiv ((↑(List.length (bytesL b)):Int) - (↑u:Int)) m)) = true]) (h:Q (V.tup [I 0,I 0,I 10]) ([])):Ends (cG (.ok (n,u))) 0 (start (cG (.ok (n,u))) 162 [LB b,I m] []) Q :=
 Ends.toFin (cG_ok (.ok (n,u))) (hints [(20,false),(23,true)] [] [] 0 false true) anyLoop 140 (by kernel_rfl) hp h
theorem len_k_ff {n:Int} {u:Nat} {b:List UInt8} {m:Int} {Q:V→Aev.Rows→Prop} (hp:AllP [isB (bytesL b),short (List.length (bytesL b)),gInt (List.map unB (bytesL b)) = Except.ok (n,u),decide (n < (0:Int)) = false,inInt ((↑(List.length (bytesL b)):Int) - (↑u:Int)),IntKind.i64 = IntKind.i64,m ≠ (0:Int),decide (n > IntKind.wrap IntKind.i64 (Int.tdiv ((↑(List.length (bytesL b)):Int) - (↑u:Int)) m)) = false]) (h:Q (V.tup [I n,I (↑u:Int),I 0]) ([])):Ends (cG (.ok (n,u))) 0 (start (cG (.ok (n,u))) 162 [LB b,I m] []) Q :=
 Ends.toFin (cG_ok (.ok (n,u))) (hints [(20,false),(23,false)] [] [] 0 false true) anyLoop 140 (by kernel_rfl) hp h
theorem rle_e_t {e:Nat} {b:List UInt8} {m:Int} {Q:V→Aev.Rows→Prop} (hp:AllP [isB (bytesL b),short (List.length (bytesL b)),gInt (List.map unB (bytesL b)) = Except.error e,((↑e:Int) != (0:Int)) = true]) (h:Q (V.tup [I 0,I 0,I (↑e:Int)]) ([])):Ends (cG (.error e)) 0 (start (cG (.error e)) 84 [LB b,I m] []) Q :=
 Ends.toFin (cG_ok (.error e)) (hints [(17,true)] [] [] 0 false true) anyLoop 140 (by kernel_rfl) hp h
theorem rle_k_t {n:Int} {u:Nat} {b:List UInt8} {m:Int} {Q:V→Aev.Rows→Prop} (hp:AllP [isB (bytesL b),short (List.length (bytesL b)),gInt (List.map unB (bytesL b)) = Except.ok (n,u),decide (n < (0:Int)) = true]) (h:Q (V.tup [I 0,I 0,I 11]) ([])):Ends (cG (.ok (n,u))) 0 (start (cG (.ok (n,u))) 84 [LB b,I m] []) Q :=
 Ends.toFin (cG_ok (.ok (n,u))) (hints [(20,true)] [] [] 0 false true) anyLoop 140 (by kernel_rfl) hp h
theorem rle_k_ft {n:Int} {u:Nat} {b:List UInt8} {m:Int} {Q:V→Aev.Rows→Prop} (hp:AllP [isB (bytesL b),short (List.length (bytesL b)),gInt (List.map unB (bytesL b)) = Except.ok (n,u),decide (n < (0:Int)) = false,inInt ((↑(List.length (bytesL b)):Int) - (↑u:Int)),IntKind.i64 = IntKind.i64,m ≠ (0:Int),decide (n > IntKind.wrap IntKind.i64 (Int.tdiv ((↑(List.length (bytesL b)):Int) - (↑u:Int)) m)) = true]) (h:Q (V.tup [I 0,I 0,I 10]) ([])):Ends (cG (.ok (n,u))) 0 (start (cG (.ok (n,u))) 84 [LB b,I m] []) Q :=
 Ends.toFin (cG_ok (.ok (n,u))) (hints [(20,false),(28,true)] [] [] 0 false true) anyLoop 140 (by kernel_rfl) hp h
theorem rle_k_ff {n:Int} {u:Nat} {b:List UInt8} {m:Int} {Q:V→Aev.Rows→Prop} (hp:AllP [isB (bytesL b),short (List.length (bytesL b)),gInt (List.map unB (bytesL b)) = Except.ok (n,u),decide (n < (0:Int)) = false,inInt ((↑(List.length (bytesL b)):Int) - (↑u:Int)),IntKind.i64 = IntKind.i64,m ≠ (0:Int),decide (n > IntKind.wrap IntKind.i64 (Int.tdiv ((↑(List.length (bytesL b)):Int) - (↑u:Int)) m)) = false]) (h:Q (V.tup [I n,I (↑u:Int),I 0]) ([])):Ends (cG (.ok (n,u))) 0 (start (cG (.ok (n,u))) 84 [LB b,I m] []) Q :=
 Ends.toFin (cG_ok (.ok (n,u))) (hints [(20,false),(28,false)] [] [] 0 false true) anyLoop 140 (by kernel_rfl) hp h
theorem rgb_e_t {e:Nat} {b:List UInt8} {Q:V→Aev.Rows→Prop} (hp:AllP [isB (bytesL b),short (List.length (bytesL b)),gInt (List.map unB (bytesL b)) = Except.error e,((↑e:Int) != (0:Int)) = true]) (h:Q (V.tup [V.d (D.str { data:={ toList:=[] } }),I 0,I (↑e:Int)]) ([])):Ends (cG (.error e)) 0 (start (cG (.error e)) 86 [LB b] []) Q :=
 Ends.toFin (cG_ok (.error e)) (hints [(15,true)] [] [] 0 false true) anyLoop 140 (by kernel_rfl) hp h
theorem rgb_k_t {n:Int} {u:Nat} {b:List UInt8} {Q:V→Aev.Rows→Prop} (hp:AllP [isB (bytesL b),short (List.length (bytesL b)),gInt (List.map unB (bytesL b)) = Except.ok (n,u),decide (n < (0:Int)) = true]) (h:Q (V.tup [V.d (D.str { data:={ toList:=[] } }),I 0,I 11]) ([])):Ends (cG (.ok (n,u))) 0 (start (cG (.ok (n,u))) 86 [LB b] []) Q :=
 Ends.toFin (cG_ok (.ok (n,u))) (hints [(18,true)] [] [] 0 false true) anyLoop 140 (by kernel_rfl) hp h
theorem rgb_k_ft {n:Int} {u:Nat} {b:List UInt8} {Q:V→Aev.Rows→Prop} (hp:AllP [isB (bytesL b),short (List.length (bytesL b)),gInt (List.map unB (bytesL b)) = Except.ok (n,u),decide (n < (0:Int)) = false,inInt ((↑(List.length (bytesL b)):Int) - (↑u:Int)),decide (n > (↑(List.length (bytesL b)):Int) - (↑u:Int)) = true]) (h:Q (V.tup [V.d (D.str { data:={ toList:=[] } }),I 0,I 10]) ([])):Ends (cG (.ok (n,u))) 0 (start (cG (.ok (n,u))) 86 [LB b] []) Q :=
 Ends.toFin (cG_ok (.ok (n,u))) (hints [(18,false),(24,true)] [] [] 0 false true) anyLoop 140 (by kernel_rfl) hp h
theorem rgb_k_ff {n:Int} {u:Nat} {b:List UInt8} {Q:V→Aev.Rows→Prop} (hp:AllP [isB (bytesL b),short (List.length (bytesL b)),gInt (List.map unB (bytesL b)) = Except.ok (n,u),decide (n < (0:Int)) = false,inInt ((↑(List.length (bytesL b)):Int) - (↑u:Int)),decide (n > (↑(List.length (bytesL b)):Int) - (↑u:Int)) = false,inInt ((↑u:Int) + n),(0:Int) ≤ (↑u:Int),(0:Int) ≤ (↑u:Int) + n,Int.toNat (↑u:Int) ≤ Int.toNat ((↑u:Int) + n)∧Int.toNat ((↑u:Int) + n) ≤ List.length (bytesL b),(List.all (bytesL b) fun e=>List.length (D.cells e) == 1) = true,List.take (Int.toNat ((↑u:Int) + n) - Int.toNat (↑u:Int)) (List.drop (Int.toNat (↑u:Int)) (bytesL b)) = bytesL (List.map unB (List.take (Int.toNat ((↑u:Int) + n) - Int.toNat (↑u:Int)) (List.drop (Int.toNat (↑u:Int)) (bytesL b)))),inInt ((↑u:Int) + n)]) (h:Q (V.tup [V.d (D.str { data:={ toList:=List.map unB (List.take (Int.toNat ((↑u:Int) + n) - Int.toNat (↑u:Int)) (List.drop (Int.toNat (↑u:Int)) (bytesL b))) } }),I ((↑u:Int) + n),I 0]) ([])):Ends (cG (.ok (n,u))) 0 (start (cG (.ok (n,u))) 86 [LB b] []) Q :=
 Ends.toFin (cG_ok (.ok (n,u))) (hints [(18,false),(24,false)] [] [] 0 false true) anyLoop 140 (by kernel_rfl) hp h
end Go.Aev.M44
end
section
set_option maxRecDepth 1000000
set_option linter.unusedVariables false
namespace Go.Aev.M44
open Go Go.Aev
noncomputable def C92 (s:List UInt8):AS:=nextOf (sTo c0 (hints []) (toCall 5) 300 (start c0 92 [.d (strD s)] []))
noncomputable def C94 (s:List UInt8):AS:=nextOf (sTo c0 (hints []) (toCall 5) 300 (start c0 94 [.d (strD s)] []))
end Go.Aev.M44
namespace Go.Aev.M44
theorem byt_ {s l:List UInt8} {Q:V→Aev.Rows→Prop} (hp:AllP [1 = 1,0 < 1∧List.length (bytesD { data:=List.toArray s }) ≠ 0∧1 = 1∧1 = 1∧0 + List.length l ≤ List.length (bytesL l)∧¬List.length l + List.length (bytesD { data:=List.toArray s }) ≤ List.length l∧2 * (List.length l + List.length (bytesD { data:=List.toArray s })) * 1 ≤ 281474976710656∧List.length l + List.length (bytesD { data:=List.toArray s }) ≤ 4611686018427387904]) (h:Q (V.sl (1) (1) (0) (List.length l + List.length (bytesD { data:=List.toArray s })) (List.length l + List.length (bytesD { data:=List.toArray s })) false) ([Slot.dead,Slot.live (Row.dat (1) (List.take l.length (List.drop (0) (bytesL l)) ++ bytesD { data:=List.toArray s }) false)])):Ends c0 0 (afterN (C92 s) (outV l) (outR l)) Q :=
 Ends.toFin c0_ok (hints [] [] [] 1 false true) anyLoop 140 (by kernel_rfl) hp h
theorem rby_ {s l:List UInt8} {Q:V→Aev.Rows→Prop} (hp:AllP [1 = 1,0 < 1∧List.length (bytesD { data:=List.toArray s }) ≠ 0∧1 = 1∧1 = 1∧0 + List.length l ≤ List.length (bytesL l)∧¬List.length l + List.length (bytesD { data:=List.toArray s }) ≤ List.length l∧2 * (List.length l + List.length (bytesD { data:=List.toArray s })) * 1 ≤ 281474976710656∧List.length l + List.length (bytesD { data:=List.toArray s }) ≤ 4611686018427387904]) (h:Q (V.sl (1) (1) (0) (List.length l + List.length (bytesD { data:=List.toArray s })) (List.length l + List.length (bytesD { data:=List.toArray s })) false) ([Slot.dead,Slot.live (Row.dat (1) (List.take l.length (List.drop (0) (bytesL l)) ++ bytesD { data:=List.toArray s }) false)])):Ends c0 0 (afterN (C94 s) (outV l) (outR l)) Q :=
 Ends.toFin c0_ok (hints [] [] [] 1 false true) anyLoop 140 (by kernel_rfl) hp h
end Go.Aev.M44
end
section
set_option maxRecDepth 1000000
set_option linter.unusedVariables false
namespace Go.Aev.M44
open Go Go.Aev
end Go.Aev.M44
namespace Go.Aev.M44
theorem byt_nil {l:List UInt8} {Q:V→Aev.Rows→Prop} (hp:AllP []) (h:Q (V.sl (0) (1) (0) l.length l.length false) ([Slot.live (Row.dat (1) (bytesL l) false)])):Ends c0 0 (afterN (C92 []) (outV l) (outR l)) Q :=
 Ends.toFin c0_ok (hints [] [] [] 0 false true) anyLoop 140 (by kernel_rfl) hp h
theorem rby_nil {l:List UInt8} {Q:V→Aev.Rows→Prop} (hp:AllP []) (h:Q (V.sl (0) (1) (0) l.length l.length false) ([Slot.live (Row.dat (1) (bytesL l) false)])):Ends c0 0 (afterN (C94 []) (outV l) (outR l)) Q :=
 Ends.toFin c0_ok (hints [] [] [] 0 false true) anyLoop 140 (by kernel_rfl) hp h
end Go.Aev.M44
end
section
namespace Go.Aev.M44
set_option maxRecDepth 1000000
open Go Go.Aev
def small (n:Nat):Prop:=n ≤ 70368744177664
theorem bytesD_str (s:Bs):bytesD ⟨s.toArray⟩ = bytesL s:=by unfold bytesD; simp
theorem str_size (s:Bs):ByteArray.size ⟨s.toArray⟩ = s.length:=by simp [ByteArray.size]
theorem fin_app {l s:Bs} {r0:Slot}:Bytes (l ++ s) (.sl 1 1 0 (l.length + (bytesD ⟨s.toArray⟩).length) (l.length + (bytesD ⟨s.toArray⟩).length) false) [r0,.live (.dat 1 (List.take l.length (List.drop 0 (bytesL l)) ++ bytesD ⟨s.toArray⟩) false)]:=by
 rw [take_all,bytesD_str,← bytesL_append,bytesL_len]
 exact ⟨1,by rw [List.length_append],rfl⟩
theorem in64_len {s:Bs} (h:small s.length):in64 (s.length:Int):=by unfold small at h; unfold in64; omega
theorem enc_len10 {n:Int} (h:in64 n):(enc n).length ≤ 10:=vb_len (zz_lt h)
theorem byt_go {s:Bs} (h:small s.length):Ends c0 0 (start c0 92 [.d (strD s)] []) (Bytes (eBytes s)):=by
 refine Ends.to c0_ok (hints []) (toCall 5) 300 (ps:=[]) (s':=C92 s) (by kernel_rfl) trivial ?_
 refine Ends.callB c0_ok (g:=90) (ar:=[I (ByteArray.size ⟨s.toArray⟩:Nat)]) (l:=enc s.length) (by kernel_rfl) (by rw [str_size]; exact int_new (in64_len h)) (by kernel_rfl) ?_
 have he:=enc_len10 (in64_len h)
 have hq:=enc_pos (s.length:Int)
 unfold small at h
 cases s with
 | nil =>
  refine byt_nil (by trivial) ?_
  show Bytes (enc _ ++ []) _ _
  rw [List.append_nil]
  exact ⟨0,rfl,rfl⟩
 | cons c r =>
  refine byt_ ⟨rfl,⟨by omega,by rw [bytesD_str,bytesL_len]; simp,rfl,rfl,by rw [bytesL_len]; omega,by rw [bytesD_str,bytesL_len]; simp,by rw [bytesD_str,bytesL_len]; omega,by rw [bytesD_str,bytesL_len]; omega⟩,trivial⟩ ?_
  exact fin_app
theorem rby_go {s:Bs} (h:small s.length):Ends c0 0 (start c0 94 [.d (strD s)] []) (Bytes (eBytes s)):=by
 refine Ends.to c0_ok (hints []) (toCall 5) 300 (ps:=[]) (s':=C94 s) (by kernel_rfl) trivial ?_
 refine Ends.callB c0_ok (g:=93) (ar:=[I (ByteArray.size ⟨s.toArray⟩:Nat)]) (l:=enc s.length) (by kernel_rfl) (by rw [str_size]; exact rnt_new (in64_len h)) (by kernel_rfl) ?_
 have he:=enc_len10 (in64_len h)
 have hq:=enc_pos (s.length:Int)
 unfold small at h
 cases s with
 | nil =>
  refine rby_nil (by trivial) ?_
  show Bytes (enc _ ++ []) _ _
  rw [List.append_nil]
  exact ⟨0,rfl,rfl⟩
 | cons c r =>
  refine rby_ ⟨rfl,⟨by omega,by rw [bytesD_str,bytesL_len]; simp,rfl,rfl,by rw [bytesL_len]; omega,by rw [bytesD_str,bytesL_len]; simp,by rw [bytesD_str,bytesL_len]; omega,by rw [bytesD_str,bytesL_len]; omega⟩,trivial⟩ ?_
  exact fin_app
theorem wire_bytes {s:Bs} (h:small s.length):RCs PP 92 [.d (strD s)] [] (LB (eBytes s)):=rcs_of c0_ok (by kernel_rfl) ((byt_go h).mono fun _ _ h=>h.conv)
theorem ref_bytes {s:Bs} (h:small s.length):RCs PP 94 [.d (strD s)] [] (LB (eBytes s)):=rcs_of c0_ok (by kernel_rfl) ((rby_go h).mono fun _ _ h=>h.conv)
end Go.Aev.M44
end
section
namespace Go.Aev.M44
set_option maxRecDepth 1000000
open Go Go.Aev
theorem gInt_err {b:Bs} {e:Nat} (h:gInt b = .error e):e ≠ 0:=by
 unfold gInt at h
 split at h
 ·cases h; omega
 split at h
 ·cases h; omega
 split at h
 ·cases h; omega
 ·cases h
theorem quot_len {N u m:Nat} (hN:short N) (hu:u ≤ N) (hm:1 ≤ m):IntKind.i64.wrap (Int.tdiv ((N:Int) - (u:Int)) (m:Int)) = (((N - u) / m:Nat):Int):=by
 unfold short at hN
 have e:(N:Int) - (u:Int) = ((N - u:Nat):Int):=by omega
 rw [e,Int.tdiv_eq_ediv_of_nonneg (by omega),wi64]
 have e2:((N - u:Nat):Int) / (m:Int) = (((N - u) / m:Nat):Int):=(Int.natCast_ediv _ _).symm
 rw [e2]
 have:(N - u) / m ≤ N - u:=Nat.div_le_self _ _
 generalize (N - u) / m = q at *
 omega
theorem wire_len {b:Bs} (hb:short b.length) {m:Nat} (hm:1 ≤ m):RCs PP 162 [LB b,I (m:Int)] [] (lV (gLen b m)):=by
 unfold gLen
 cases hg:gInt b with
 | error e =>
  have he:=gInt_err hg
  exact rcs_of (cG_ok (.error e)) (by kernel_rfl) (len_e_t ⟨isB_bytes b,by rw [bytesL_len]; exact hb,by rw [unB_bytes]; exact hg,by simp; omega,trivial⟩ rfl)
 | ok p =>
  obtain ⟨n,u⟩:=p
  obtain ⟨h1,h2,h3,h4⟩:=gInt_ok hg
  simp only
  by_cases hn:n < 0
  ·rw [if_pos hn]
   exact rcs_of (cG_ok (.ok (n,u))) (by kernel_rfl) (len_k_t ⟨isB_bytes b,by rw [bytesL_len]; exact hb,by rw [unB_bytes]; exact hg,decide_eq_true hn,trivial⟩ rfl)
  ·rw [if_neg hn]
   have hq:=quot_len (u:=u) hb h3 hm
   by_cases hc:(b.length - u) / m < n.toNat
   ·rw [if_pos hc]
    exact rcs_of (cG_ok (.ok (n,u))) (by kernel_rfl) (len_k_ft ⟨isB_bytes b,by rw [bytesL_len]; exact hb,by rw [unB_bytes]; exact hg,decide_eq_false hn,by unfold short at hb; rw [bytesL_len]; unfold inInt; omega,rfl,by omega,by rw [bytesL_len,hq]; exact decide_eq_true (by omega),trivial⟩ rfl)
   ·rw [if_neg hc]
    have e:((n.toNat:Nat):Int) = n:=by omega
    show RCs PP 162 _ [] (.tup [I ((n.toNat:Nat):Int),I (u:Int),I 0])
    rw [e]
    exact rcs_of (cG_ok (.ok (n,u))) (by kernel_rfl) (len_k_ff ⟨isB_bytes b,by rw [bytesL_len]; exact hb,by rw [unB_bytes]; exact hg,decide_eq_false hn,by unfold short at hb; rw [bytesL_len]; unfold inInt; omega,rfl,by omega,by rw [bytesL_len,hq]; exact decide_eq_false (by omega),trivial⟩ rfl)
theorem ref_len {b:Bs} (hb:short b.length) {m:Nat} (hm:1 ≤ m):RCs PP 84 [LB b,I (m:Int)] [] (lV (gLen b m)):=by
 unfold gLen
 cases hg:gInt b with
 | error e =>
  have he:=gInt_err hg
  exact rcs_of (cG_ok (.error e)) (by kernel_rfl) (rle_e_t ⟨isB_bytes b,by rw [bytesL_len]; exact hb,by rw [unB_bytes]; exact hg,by simp; omega,trivial⟩ rfl)
 | ok p =>
  obtain ⟨n,u⟩:=p
  obtain ⟨h1,h2,h3,h4⟩:=gInt_ok hg
  simp only
  by_cases hn:n < 0
  ·rw [if_pos hn]
   exact rcs_of (cG_ok (.ok (n,u))) (by kernel_rfl) (rle_k_t ⟨isB_bytes b,by rw [bytesL_len]; exact hb,by rw [unB_bytes]; exact hg,decide_eq_true hn,trivial⟩ rfl)
  ·rw [if_neg hn]
   have hq:=quot_len (u:=u) hb h3 hm
   by_cases hc:(b.length - u) / m < n.toNat
   ·rw [if_pos hc]
    exact rcs_of (cG_ok (.ok (n,u))) (by kernel_rfl) (rle_k_ft ⟨isB_bytes b,by rw [bytesL_len]; exact hb,by rw [unB_bytes]; exact hg,decide_eq_false hn,by unfold short at hb; rw [bytesL_len]; unfold inInt; omega,rfl,by omega,by rw [bytesL_len,hq]; exact decide_eq_true (by omega),trivial⟩ rfl)
   ·rw [if_neg hc]
    have e:((n.toNat:Nat):Int) = n:=by omega
    show RCs PP 84 _ [] (.tup [I ((n.toNat:Nat):Int),I (u:Int),I 0])
    rw [e]
    exact rcs_of (cG_ok (.ok (n,u))) (by kernel_rfl) (rle_k_ff ⟨isB_bytes b,by rw [bytesL_len]; exact hb,by rw [unB_bytes]; exact hg,decide_eq_false hn,by unfold short at hb; rw [bytesL_len]; unfold inInt; omega,rfl,by omega,by rw [bytesL_len,hq]; exact decide_eq_false (by omega),trivial⟩ rfl)
noncomputable def tabL (r:Except Nat (Nat × Nat)) (g:FuncId) (args:List V) (rows:Aev.Rows):Option (List Prop × V) :=
 match g,args with
 | 162,[v,.d (.int .i64 m)]=>match listOf rows v with
  | some (ps,es)=>some (ps ++ [isB es,short es.length,1 ≤ m,gLen (es.map unB) m.toNat = r],lV r)
  | none=>none
 | 84,[v,.d (.int .i64 m)]=>match listOf rows v with
  | some (ps,es)=>some (ps ++ [isB es,short es.length,1 ≤ m,gLen (es.map unB) m.toNat = r],lV r)
  | none=>none
 | _,_=>none
noncomputable def cL (r:Except Nat (Nat × Nat)):SCfg:=mk (fun _=>true) (tabL r)
theorem tabL_ok {r:Except Nat (Nat × Nat)} {g:FuncId} {args:List V} {rows:Aev.Rows} {ps:List Prop} {v:V} (h:tabL r g args rows = some (ps,v)) (hp:AllP ps):RCs PP g args rows v:=by
 unfold tabL at h
 split at h
 ·split at h
  ·rename_i m _ qs es hl
   cases h
   obtain ⟨h1,h2,h3,h4,h5,_⟩:=AllP_append hp
   have:=wire_len (b:=es.map unB) (by rw [List.length_map]; exact h3) (m:=m.toNat) (by omega)
   rw [h5] at this
   have em:((m.toNat:Nat):Int) = m:=by omega
   rw [em] at this
   refine this.of_lists (.cons ?_ (.cons (.data _) .nil))
   have e:LB (es.map unB) = .d (.list es):=by unfold isB at h2; rw [LB,← h2]
   rw [e]; exact .list hl h1
  ·cases h
 ·split at h
  ·rename_i m _ qs es hl
   cases h
   obtain ⟨h1,h2,h3,h4,h5,_⟩:=AllP_append hp
   have:=ref_len (b:=es.map unB) (by rw [List.length_map]; exact h3) (m:=m.toNat) (by omega)
   rw [h5] at this
   have em:((m.toNat:Nat):Int) = m:=by omega
   rw [em] at this
   refine this.of_lists (.cons ?_ (.cons (.data _) .nil))
   have e:LB (es.map unB) = .d (.list es):=by unfold isB at h2; rw [LB,← h2]
   rw [e]; exact .list hl h1
  ·cases h
 ·cases h
theorem cL_ok (r:Except Nat (Nat × Nat)):COK (cL r).cfg:=mk_ok fun g args rows ps v h hp=>tabL_ok h hp
end Go.Aev.M44
end
section
set_option maxRecDepth 1000000
set_option linter.unusedVariables false
namespace Go.Aev.M44
open Go Go.Aev
end Go.Aev.M44
namespace Go.Aev.M44
theorem gby_e_t {e:Nat} {b:List UInt8} {Q:V→Aev.Rows→Prop} (hp:AllP [isB (bytesL b),short (List.length (bytesL b)),(1:Int) ≤ (1:Int),gLen (List.map unB (bytesL b)) (Int.toNat (1:Int)) = Except.error e,((↑e:Int) != (0:Int)) = true]) (h:Q (V.tup [V.d (D.str { data:={ toList:=[] } }),I 0,I (↑e:Int)]) ([])):Ends (cL (.error e)) 0 (start (cL (.error e)) 82 [LB b] []) Q :=
 Ends.toFin (cL_ok (.error e)) (hints [(15,true)] [] [] 0 false true) anyLoop 140 (by kernel_rfl) hp h
theorem gby_k_ {n u:Nat} {b:List UInt8} {Q:V→Aev.Rows→Prop} (hp:AllP [isB (bytesL b),short (List.length (bytesL b)),(1:Int) ≤ (1:Int),gLen (List.map unB (bytesL b)) (Int.toNat (1:Int)) = Except.ok (n,u),inInt ((↑u:Int) + (↑n:Int)),(0:Int) ≤ (↑u:Int),(0:Int) ≤ (↑u:Int) + (↑n:Int),Int.toNat (↑u:Int) ≤ Int.toNat ((↑u:Int) + (↑n:Int))∧Int.toNat ((↑u:Int) + (↑n:Int)) ≤ List.length (bytesL b),(List.all (bytesL b) fun e=>List.length (D.cells e) == 1) = true,List.take (Int.toNat ((↑u:Int) + (↑n:Int)) - Int.toNat (↑u:Int)) (List.drop (Int.toNat (↑u:Int)) (bytesL b)) = bytesL (List.map unB (List.take (Int.toNat ((↑u:Int) + (↑n:Int)) - Int.toNat (↑u:Int)) (List.drop (Int.toNat (↑u:Int)) (bytesL b)))),inInt ((↑u:Int) + (↑n:Int))]) (h:Q (V.tup [V.d (D.str { data:={ toList:=List.map unB (List.take (Int.toNat ((↑u:Int) + (↑n:Int)) - Int.toNat (↑u:Int)) (List.drop (Int.toNat (↑u:Int)) (bytesL b))) } }),I ((↑u:Int) + (↑n:Int)),I 0]) ([])):Ends (cL (.ok (n,u))) 0 (start (cL (.ok (n,u))) 82 [LB b] []) Q :=
 Ends.toFin (cL_ok (.ok (n,u))) (hints [] [] [] 0 false true) anyLoop 140 (by kernel_rfl) hp h
end Go.Aev.M44
end
section
namespace Go.Aev.M44
set_option maxRecDepth 1000000
open Go Go.Aev
theorem cut_eq (b:Bs) (u:Nat) {n:Int} (hn:0 ≤ n):List.take (Int.toNat ((u:Int) + n) - Int.toNat (u:Int)) (List.drop (Int.toNat (u:Int)) (bytesL b)) = bytesL ((b.drop u).take n.toNat):=by
 have e:Int.toNat ((u:Int) + n) - Int.toNat (u:Int) = n.toNat:=by omega
 rw [e,Int.toNat_natCast]; unfold bytesL; rw [List.map_take,List.map_drop]
theorem all1 (b:Bs):(List.all (bytesL b) fun e=>List.length (D.cells e) == 1) = true:=by
 rw [List.all_eq_true]
 intro e he
 obtain ⟨c,_,rfl⟩:=List.mem_map.1 he
 rfl
theorem gLen_err {b:Bs} {m e:Nat} (h:gLen b m = .error e):e ≠ 0:=by
 unfold gLen at h
 split at h
 ·rename_i e' he; cases h; exact gInt_err he
 ·split at h
  ·cases h; omega
  split at h
  ·cases h; omega
  ·cases h
theorem wire_gby {b:Bs} (hb:short b.length):RCs PP 82 [LB b] [] (bV (gBytes b)):=by
 unfold gBytes
 cases hg:gLen b 1 with
 | error e =>
  have he:=gLen_err hg
  exact rcs_of (cL_ok (.error e)) (by kernel_rfl) (gby_e_t ⟨isB_bytes b,by rw [bytesL_len]; exact hb,by omega,by rw [unB_bytes]; exact hg,by simp; omega,trivial⟩ rfl)
 | ok p =>
  obtain ⟨n,u⟩:=p
  obtain ⟨h1,h2,h3⟩:=gLen_ok hg
  unfold short at hb
  have ec:=cut_eq b u (n:=(n:Int)) (by omega)
  rw [Int.toNat_natCast n] at ec
  refine rcs_of (cL_ok (.ok (n,u))) (by kernel_rfl) (gby_k_ ⟨isB_bytes b,by rw [bytesL_len]; exact hb,by omega,by rw [unB_bytes]; exact hg,by unfold inInt; omega,by omega,by omega,by rw [bytesL_len]; omega,all1 b,by rw [ec,unB_bytes],by unfold inInt; omega,trivial⟩ ?_)
  rw [ec,unB_bytes]
  rfl
theorem ref_gby {b:Bs} (hb:short b.length):RCs PP 86 [LB b] [] (bV (gBytes b)):=by
 unfold gBytes gLen
 have hb':=hb
 unfold short at hb'
 cases hg:gInt b with
 | error e =>
  have he:=gInt_err hg
  exact rcs_of (cG_ok (.error e)) (by kernel_rfl) (rgb_e_t ⟨isB_bytes b,by rw [bytesL_len]; exact hb,by rw [unB_bytes]; exact hg,by simp; omega,trivial⟩ rfl)
 | ok p =>
  obtain ⟨n,u⟩:=p
  obtain ⟨h1,h2,h3,h4⟩:=gInt_ok hg
  simp only
  by_cases hn:n < 0
  ·rw [if_pos hn]
   exact rcs_of (cG_ok (.ok (n,u))) (by kernel_rfl) (rgb_k_t ⟨isB_bytes b,by rw [bytesL_len]; exact hb,by rw [unB_bytes]; exact hg,decide_eq_true hn,trivial⟩ rfl)
  ·rw [if_neg hn]
   by_cases hc:(b.length - u) / 1 < n.toNat
   ·rw [if_pos hc]
    rw [Nat.div_one] at hc
    exact rcs_of (cG_ok (.ok (n,u))) (by kernel_rfl) (rgb_k_ft ⟨isB_bytes b,by rw [bytesL_len]; exact hb,by rw [unB_bytes]; exact hg,decide_eq_false hn,by rw [bytesL_len]; unfold inInt; omega,by rw [bytesL_len]; exact decide_eq_true (by omega),trivial⟩ rfl)
   ·rw [if_neg hc]
    rw [Nat.div_one] at hc
    have ec:=cut_eq b u (n:=n) (by omega)
    refine rcs_of (cG_ok (.ok (n,u))) (by kernel_rfl) (rgb_k_ff ⟨isB_bytes b,by rw [bytesL_len]; exact hb,by rw [unB_bytes]; exact hg,decide_eq_false hn,by rw [bytesL_len]; unfold inInt; omega,by rw [bytesL_len]; exact decide_eq_false (by omega),by unfold inInt; omega,by omega,by omega,by rw [bytesL_len]; omega,all1 b,by rw [ec,unB_bytes],by unfold inInt; omega,trivial⟩ ?_)
    rw [ec,unB_bytes]
    have e:((u + n.toNat:Nat):Int) = (u:Int) + n:=by omega
    show convV (liveAt []) _ = some (.tup [.d (strD _),I ((u + n.toNat:Nat):Int),I 0])
    rw [e]
    rfl
end Go.Aev.M44
end
section
namespace Go.Aev.M44
set_option maxRecDepth 1000000
open Go Go.Aev
theorem app_bytes {o s:Bs} {P:V→Aev.Rows→Prop} (hp:P (outV (o ++ s)) (outR (o ++ s))) :
  P (.sl 0 1 0 (o.length + (bytesL s).length) (o.length + (bytesL s).length) false) [.live (.dat 1 (List.take o.length (List.drop 0 (bytesL o)) ++ bytesL s) false)]:=by
 rw [take_all,← bytesL_append,bytesL_len]
 unfold outV outR at hp
 rw [List.length_append] at hp
 exact hp
theorem drop_cons {α:Type} {l:List α} {k:Nat} (h:k < l.length) (d:α):l.drop k = l.getD k d :: l.drop (k + 1):=by
 rw [List.drop_eq_getElem_cons h]; simp [List.getD,h]
theorem getD_mem {α:Type} {l:List α} {k:Nat} (h:k < l.length) (d:α):l.getD k d ∈ l:=by
 simp [List.getD,h]
def fits (n:Nat):Prop:=n ≤ 1073741824
theorem lst_loop {l:List Int} (hl:fits l.length) (ha:∀ x ∈ l,in64 x):∀ (n k:Nat) (o:Bs),k + n = l.length→o.length + 10 * n ≤ 21474836480→Ends cW 0 (H89 l o (k:Nat)) (Bytes (o ++ (l.drop k).flatMap enc)):=by
 intro n
 unfold fits at hl
 induction n with
 | zero =>
  intro k o hk ho
  rw [List.drop_of_length_le (by omega),List.flatMap_nil,List.append_nil]
  exact lst_f ⟨by rw [ints_len]; exact decide_eq_false (by omega),trivial⟩ ⟨0,rfl,rfl⟩
 | succ n ih =>
  intro k o hk ho
  have hx:=ha _ (getD_mem (show k < l.length by omega) 0)
  have he:=enc_len10 hx
  have hp:=enc_pos (l.getD k 0)
  refine lst_t ⟨by rw [ints_len]; exact decide_eq_true (by omega),by rw [ints_len]; omega,ints_get (by omega),rfl,hx,all1 _,⟨by omega,by rw [bytesL_len,Int.toNat_natCast]; omega,rfl,rfl,by rw [bytesL_len]; omega,by rw [bytesL_len,Int.toNat_natCast]; omega,by rw [bytesL_len,Int.toNat_natCast]; omega,by rw [bytesL_len,Int.toNat_natCast]; omega⟩,by unfold inInt; omega,trivial⟩ ?_
  rw [Int.toNat_natCast]
  refine app_bytes (P:=fun v rows=>Ends cW 0 (hd 89 td89 24 [(1,V.fn 90 []),(5,v),(11,V.d (D.list (ints l))),(12,I ((ints l).length:Int)),(13,I ((k:Int) + 1))] rows) _) ?_
  have:=ih (k + 1) (o ++ enc (l.getD k 0)) (by omega) (by rw [List.length_append]; omega)
  rw [List.append_assoc] at this
  rw [drop_cons (show k < l.length by omega) 0,List.flatMap_cons]
  exact this
theorem lst_go {l:List Int} (hl:fits l.length) (ha:∀ x ∈ l,in64 x):Ends cW 0 (start cW 89 [L l,.fn 90 []] []) (Bytes (eInts l)):=by
 refine Ends.to cW_ok (hints []) (toCall 10) 300 (ps:=[]) (s':=C89 l) (by kernel_rfl) trivial ?_
 have hl':=hl
 unfold fits at hl'
 have h64:in64 (l.length:Int):=by unfold in64; omega
 have he:=enc_len10 h64
 refine Ends.callB cW_ok (g:=90) (ar:=[I ((ints l).length:Nat)]) (l:=enc l.length) (by kernel_rfl) (by rw [ints_len]; exact int_new h64) (by kernel_rfl) ?_
 refine lst_0_ trivial ?_
 exact lst_loop hl ha l.length 0 (enc l.length) (by omega) (by omega)
theorem rls_loop {l:List Int} (hl:fits l.length) (ha:∀ x ∈ l,in64 x):∀ (n k:Nat) (o:Bs),k + n = l.length→o.length + 10 * n ≤ 21474836480→Ends cW 0 (H34 l o (k:Nat)) (Bytes (o ++ (l.drop k).flatMap enc)):=by
 intro n
 unfold fits at hl
 induction n with
 | zero =>
  intro k o hk ho
  rw [List.drop_of_length_le (by omega),List.flatMap_nil,List.append_nil]
  exact rls_f ⟨by rw [ints_len]; exact decide_eq_false (by omega),trivial⟩ ⟨0,rfl,rfl⟩
 | succ n ih =>
  intro k o hk ho
  have hx:=ha _ (getD_mem (show k < l.length by omega) 0)
  have he:=enc_len10 hx
  have hp:=enc_pos (l.getD k 0)
  refine rls_t ⟨by rw [ints_len]; exact decide_eq_true (by omega),by rw [ints_len]; omega,ints_get (by omega),rfl,hx,all1 _,⟨by omega,by rw [bytesL_len,Int.toNat_natCast]; omega,rfl,rfl,by rw [bytesL_len]; omega,by rw [bytesL_len,Int.toNat_natCast]; omega,by rw [bytesL_len,Int.toNat_natCast]; omega,by rw [bytesL_len,Int.toNat_natCast]; omega⟩,by unfold inInt; omega,trivial⟩ ?_
  rw [Int.toNat_natCast]
  refine app_bytes (P:=fun v rows=>Ends cW 0 (hd 34 td34 22 [(0,V.d (D.list (ints l))),(3,v),(4,I ((k:Int) + 1))] rows) _) ?_
  have:=ih (k + 1) (o ++ enc (l.getD k 0)) (by omega) (by rw [List.length_append]; omega)
  rw [List.append_assoc] at this
  rw [drop_cons (show k < l.length by omega) 0,List.flatMap_cons]
  exact this
theorem rls_go {l:List Int} (hl:fits l.length) (ha:∀ x ∈ l,in64 x):Ends cW 0 (start cW 34 [L l] []) (Bytes (eInts l)):=by
 refine Ends.to cW_ok (hints []) (toCall 7) 300 (ps:=[]) (s':=C34 l) (by kernel_rfl) trivial ?_
 have hl':=hl
 unfold fits at hl'
 have h64:in64 (l.length:Int):=by unfold in64; omega
 have he:=enc_len10 h64
 refine Ends.callB cW_ok (g:=93) (ar:=[I ((ints l).length:Nat)]) (l:=enc l.length) (by kernel_rfl) (by rw [ints_len]; exact rnt_new h64) (by kernel_rfl) ?_
 refine rls_0_ trivial ?_
 exact rls_loop hl ha l.length 0 (enc l.length) (by omega) (by omega)
theorem list_ints_new {l:List Int} (hl:fits l.length) (ha:∀ x ∈ l,in64 x):Does PP 89 0 [L l,.fn 90 []] [] (NewB (eInts l)):=Bytes.new (does_of cW_ok (by kernel_rfl) (lst_go hl ha))
theorem rints_new {l:List Int} (hl:fits l.length) (ha:∀ x ∈ l,in64 x):Does PP 34 0 [L l] [] (NewB (eInts l)):=Bytes.new (does_of cW_ok (by kernel_rfl) (rls_go hl ha))
end Go.Aev.M44
end
section
namespace Go.Aev.M44
set_option maxRecDepth 1000000
open Go Go.Aev
def tabB (g:FuncId) (args:List V) (_rows:Aev.Rows):Option (List Prop × V) :=
 match g,args with
 | 92,[.d (.str s)]=>some ([small s.data.toList.length],LB (eBytes s.data.toList))
 | 94,[.d (.str s)]=>some ([small s.data.toList.length],LB (eBytes s.data.toList))
 | _,_=>none
noncomputable def cB:SCfg:=mk (fun _=>true) tabB
theorem tabB_ok {g:FuncId} {args:List V} {rows:Aev.Rows} {ps:List Prop} {v:V} (h:tabB g args rows = some (ps,v)) (hp:AllP ps):RCs PP g args rows v:=by
 unfold tabB at h
 split at h
 ·rename_i s
  cases h
  exact (wire_bytes (s:=s.data.toList) hp.1).of_lists (.cons (.data _) .nil)
 ·rename_i s
  cases h
  exact (ref_bytes (s:=s.data.toList) hp.1).of_lists (.cons (.data _) .nil)
 ·cases h
theorem cB_ok:COK cB.cfg:=mk_ok fun g args rows ps v h hp=>tabB_ok h hp
theorem strs_len (l:List Bs):(strs l).length = l.length:=by simp [strs]
theorem strs_get {l:List Bs} {i:Nat} (h:i < l.length):(strs l)[i]? = some (strD (l.getD i [])):=by simp [strs,h]
abbrev LS (l:List Bs):V:=.d (.list (strs l))
end Go.Aev.M44
end
section
set_option maxRecDepth 1000000
set_option linter.unusedVariables false
namespace Go.Aev.M44
open Go Go.Aev
noncomputable def C91 (l:List Bs):AS:=nextOf (sTo cB (hints []) (toCall 10) 300 (start cB 91 [LS l,.fn 92 []] []))
noncomputable def td91:List AItem:=(nextOf (sTo cB (hints []) anyLoop 300 (afterN (C91 []) (outV [0]) (outR [0])))).fr.todo
noncomputable def H91 (l:List Bs) (o:List UInt8) (k:Int):AS:=hd 91 td91 24 [(1,.fn 92 []),(5,outV o),(11,LS l),(12,I (strs l).length),(13,I k)] (outR o)
noncomputable def C35 (l:List Bs):AS:=nextOf (sTo cB (hints []) (toCall 7) 300 (start cB 35 [LS l] []))
noncomputable def td35:List AItem:=(nextOf (sTo cB (hints []) anyLoop 300 (afterN (C35 []) (outV [0]) (outR [0])))).fr.todo
noncomputable def H35 (l:List Bs) (o:List UInt8) (k:Int):AS:=hd 35 td35 22 [(0,LS l),(3,outV o),(4,I k)] (outR o)
end Go.Aev.M44
namespace Go.Aev.M44
theorem lss_0_ {l:List Bs} {o:List UInt8} {Q:V→Aev.Rows→Prop} (hp:AllP []) (h:Ends cB 0 (hd 91 td91 24 [(1,V.fn (92) []),(5,V.sl (0) (1) (0) o.length o.length false),(11,V.d (D.list (strs l))),(12,I (↑(List.length (strs l)):Int)),(13,I 0)] [Slot.live (Row.dat (1) (bytesL o) false)]) Q):Ends cB 0 (afterN (C91 l) (outV o) (outR o)) Q :=
 Ends.turn cB_ok (hints [] [] [] 0 false true) anyLoop 140 [0] [1,5,11,12,13] (by kernel_rfl) hp h
theorem lss_t {l:List Bs} {o:List UInt8} {k:Int} {Q:V→Aev.Rows→Prop} (hp:AllP [decide (k < (↑(List.length (strs l)):Int)) = true,(0:Int) ≤ k∧k < (↑(List.length (strs l)):Int),(strs l)[Int.toNat k]? = some (elS l (Int.toNat k)),1 = 1,small (List.length (Array.toList (ByteArray.data { data:=List.toArray (List.getD l (Int.toNat k) []) }))),(List.all (bytesL (eBytes (Array.toList (ByteArray.data { data:=List.toArray (List.getD l (Int.toNat k) []) })))) fun e=>List.length (D.cells e) == 1) = true,0 < 1∧List.length (bytesL (eBytes (Array.toList (ByteArray.data { data:=List.toArray (List.getD l (Int.toNat k) []) })))) ≠ 0∧1 = 1∧1 = 1∧0 + List.length o ≤ List.length (bytesL o)∧¬List.length o + List.length (bytesL (eBytes (Array.toList (ByteArray.data { data:=List.toArray (List.getD l (Int.toNat k) []) })))) ≤ List.length o∧2 * (List.length o + List.length (bytesL (eBytes (Array.toList (ByteArray.data { data:=List.toArray (List.getD l (Int.toNat k) []) }))))) * 1 ≤ 281474976710656∧List.length o + List.length (bytesL (eBytes (Array.toList (ByteArray.data { data:=List.toArray (List.getD l (Int.toNat k) []) })))) ≤ 4611686018427387904,inInt (k + (1:Int))]) (h:Ends cB 0 (hd 91 td91 24 [(1,V.fn (92) []),(5,V.sl (0) (1) (0) (List.length o + List.length (bytesL (eBytes (Array.toList (ByteArray.data { data:=List.toArray (List.getD l (Int.toNat k) []) }))))) (List.length o + List.length (bytesL (eBytes (Array.toList (ByteArray.data { data:=List.toArray (List.getD l (Int.toNat k) []) }))))) false),(11,V.d (D.list (strs l))),(12,I (↑(List.length (strs l)):Int)),(13,I (k + (1:Int)))] [Slot.live (Row.dat (1) (List.take o.length (List.drop (0) (bytesL o)) ++ bytesL (eBytes (Array.toList (ByteArray.data { data:=List.toArray (List.getD l (Int.toNat k) []) })))) false)]) Q):Ends cB 0 (H91 l o k) Q :=
  Ends.turn cB_ok (hints [(14,true)] [(11,elS (l))] [] 1 false true) anyLoop 140 [1] [1,
 5,
 11,
 12,
 13] (by kernel_rfl) hp h
theorem lss_f {l:List Bs} {o:List UInt8} {k:Int} {Q:V→Aev.Rows→Prop} (hp:AllP [decide (k < (↑(List.length (strs l)):Int)) = false]) (h:Q (V.sl (0) (1) (0) o.length o.length false) ([Slot.live (Row.dat (1) (bytesL o) false)])):Ends cB 0 (H91 l o k) Q :=
 Ends.toFin cB_ok (hints [(14,false)] [] [] 0 false true) anyLoop 140 (by kernel_rfl) hp h
theorem rss_0_ {l:List Bs} {o:List UInt8} {Q:V→Aev.Rows→Prop} (hp:AllP []) (h:Ends cB 0 (hd 35 td35 22 [(0,V.d (D.list (strs l))),(3,V.sl (0) (1) (0) o.length o.length false),(4,I 0)] [Slot.live (Row.dat (1) (bytesL o) false)]) Q):Ends cB 0 (afterN (C35 l) (outV o) (outR o)) Q :=
 Ends.turn cB_ok (hints [] [] [] 0 false true) anyLoop 140 [0] [0,3,4] (by kernel_rfl) hp h
theorem rss_t {l:List Bs} {o:List UInt8} {k:Int} {Q:V→Aev.Rows→Prop} (hp:AllP [decide (k < (↑(List.length (strs l)):Int)) = true,(0:Int) ≤ k∧k < (↑(List.length (strs l)):Int),(strs l)[Int.toNat k]? = some (elS l (Int.toNat k)),1 = 1,small (List.length (Array.toList (ByteArray.data { data:=List.toArray (List.getD l (Int.toNat k) []) }))),(List.all (bytesL (eBytes (Array.toList (ByteArray.data { data:=List.toArray (List.getD l (Int.toNat k) []) })))) fun e=>List.length (D.cells e) == 1) = true,0 < 1∧List.length (bytesL (eBytes (Array.toList (ByteArray.data { data:=List.toArray (List.getD l (Int.toNat k) []) })))) ≠ 0∧1 = 1∧1 = 1∧0 + List.length o ≤ List.length (bytesL o)∧¬List.length o + List.length (bytesL (eBytes (Array.toList (ByteArray.data { data:=List.toArray (List.getD l (Int.toNat k) []) })))) ≤ List.length o∧2 * (List.length o + List.length (bytesL (eBytes (Array.toList (ByteArray.data { data:=List.toArray (List.getD l (Int.toNat k) []) }))))) * 1 ≤ 281474976710656∧List.length o + List.length (bytesL (eBytes (Array.toList (ByteArray.data { data:=List.toArray (List.getD l (Int.toNat k) []) })))) ≤ 4611686018427387904,inInt (k + (1:Int))]) (h:Ends cB 0 (hd 35 td35 22 [(0,V.d (D.list (strs l))),(3,V.sl (0) (1) (0) (List.length o + List.length (bytesL (eBytes (Array.toList (ByteArray.data { data:=List.toArray (List.getD l (Int.toNat k) []) }))))) (List.length o + List.length (bytesL (eBytes (Array.toList (ByteArray.data { data:=List.toArray (List.getD l (Int.toNat k) []) }))))) false),(4,I (k + (1:Int)))] [Slot.live (Row.dat (1) (List.take o.length (List.drop (0) (bytesL o)) ++ bytesL (eBytes (Array.toList (ByteArray.data { data:=List.toArray (List.getD l (Int.toNat k) []) })))) false)]) Q):Ends cB 0 (H35 l o k) Q :=
 Ends.turn cB_ok (hints [(11,true)] [(15,elS (l))] [] 1 false true) anyLoop 140 [1] [0,3,4] (by kernel_rfl) hp h
theorem rss_f {l:List Bs} {o:List UInt8} {k:Int} {Q:V→Aev.Rows→Prop} (hp:AllP [decide (k < (↑(List.length (strs l)):Int)) = false]) (h:Q (V.sl (0) (1) (0) o.length o.length false) ([Slot.live (Row.dat (1) (bytesL o) false)])):Ends cB 0 (H35 l o k) Q :=
 Ends.toFin cB_ok (hints [(11,false)] [] [] 0 false true) anyLoop 140 (by kernel_rfl) hp h
end Go.Aev.M44
end
section
namespace Go.Aev.M44
set_option maxRecDepth 1000000
open Go Go.Aev
theorem str_back (s:Bs):Array.toList (ByteArray.data { data:=List.toArray s }) = s:=rfl
theorem lss_loop {l:List Bs} (hl:fits l.length) (ha:∀ x ∈ l,small x.length):∀ (n k:Nat) (o:Bs),k + n = l.length→o.length + ((l.drop k).flatMap eBytes).length ≤ 70368744177664→Ends cB 0 (H91 l o (k:Nat)) (Bytes (o ++ (l.drop k).flatMap eBytes)):=by
 intro n
 unfold fits at hl
 induction n with
 | zero =>
  intro k o hk ho
  rw [List.drop_of_length_le (by omega),List.flatMap_nil,List.append_nil]
  exact lss_f ⟨by rw [strs_len]; exact decide_eq_false (by omega),trivial⟩ ⟨0,rfl,rfl⟩
 | succ n ih =>
  intro k o hk ho
  have hx:=ha _ (getD_mem (show k < l.length by omega) [])
  have hp:=bytes_fit.pos (l.getD k [])
  rw [drop_cons (show k < l.length by omega) [],List.flatMap_cons,List.length_append] at ho
  refine lss_t ⟨by rw [strs_len]; exact decide_eq_true (by omega),by rw [strs_len]; omega,strs_get (by omega),rfl,hx,all1 _,⟨by omega,by rw [bytesL_len,Int.toNat_natCast,str_back]; omega,rfl,rfl,by rw [bytesL_len]; omega,by rw [bytesL_len,Int.toNat_natCast,str_back]; omega,by rw [bytesL_len,Int.toNat_natCast,str_back]; omega,by rw [bytesL_len,Int.toNat_natCast,str_back]; omega⟩,by unfold inInt; omega,trivial⟩ ?_
  rw [Int.toNat_natCast]
  refine app_bytes (s:=eBytes (l.getD k [])) (P:=fun v rows=>Ends cB 0 (hd 91 td91 24 [(1,V.fn 92 []),(5,v),(11,V.d (D.list (strs l))),(12,I ((strs l).length:Int)),(13,I ((k:Int) + 1))] rows) _) ?_
  have:=ih (k + 1) (o ++ eBytes (l.getD k [])) (by omega) (by rw [List.length_append]; omega)
  rw [List.append_assoc] at this
  rw [drop_cons (show k < l.length by omega) [],List.flatMap_cons]
  exact this
theorem lss_go {l:List Bs} (hl:fits l.length) (ha:∀ x ∈ l,small x.length) (hs:small (eStrs l).length):Ends cB 0 (start cB 91 [LS l,.fn 92 []] []) (Bytes (eStrs l)):=by
 refine Ends.to cB_ok (hints []) (toCall 10) 300 (ps:=[]) (s':=C91 l) (by kernel_rfl) trivial ?_
 have hl':=hl
 unfold fits at hl'
 have h64:in64 (l.length:Int):=by unfold in64; omega
 have he:=enc_len10 h64
 refine Ends.callB cB_ok (g:=90) (ar:=[I ((strs l).length:Nat)]) (l:=enc l.length) (by kernel_rfl) (by rw [strs_len]; exact int_new h64) (by kernel_rfl) ?_
 refine lss_0_ trivial ?_
 exact lss_loop hl ha l.length 0 (enc l.length) (by omega) (by unfold small eStrs at hs; rw [List.length_append] at hs; exact hs)
theorem rss_loop {l:List Bs} (hl:fits l.length) (ha:∀ x ∈ l,small x.length):∀ (n k:Nat) (o:Bs),k + n = l.length→o.length + ((l.drop k).flatMap eBytes).length ≤ 70368744177664→Ends cB 0 (H35 l o (k:Nat)) (Bytes (o ++ (l.drop k).flatMap eBytes)):=by
 intro n
 unfold fits at hl
 induction n with
 | zero =>
  intro k o hk ho
  rw [List.drop_of_length_le (by omega),List.flatMap_nil,List.append_nil]
  exact rss_f ⟨by rw [strs_len]; exact decide_eq_false (by omega),trivial⟩ ⟨0,rfl,rfl⟩
 | succ n ih =>
  intro k o hk ho
  have hx:=ha _ (getD_mem (show k < l.length by omega) [])
  have hp:=bytes_fit.pos (l.getD k [])
  rw [drop_cons (show k < l.length by omega) [],List.flatMap_cons,List.length_append] at ho
  refine rss_t ⟨by rw [strs_len]; exact decide_eq_true (by omega),by rw [strs_len]; omega,strs_get (by omega),rfl,hx,all1 _,⟨by omega,by rw [bytesL_len,Int.toNat_natCast,str_back]; omega,rfl,rfl,by rw [bytesL_len]; omega,by rw [bytesL_len,Int.toNat_natCast,str_back]; omega,by rw [bytesL_len,Int.toNat_natCast,str_back]; omega,by rw [bytesL_len,Int.toNat_natCast,str_back]; omega⟩,by unfold inInt; omega,trivial⟩ ?_
  rw [Int.toNat_natCast]
  refine app_bytes (s:=eBytes (l.getD k [])) (P:=fun v rows=>Ends cB 0 (hd 35 td35 22 [(0,V.d (D.list (strs l))),(3,v),(4,I ((k:Int) + 1))] rows) _) ?_
  have:=ih (k + 1) (o ++ eBytes (l.getD k [])) (by omega) (by rw [List.length_append]; omega)
  rw [List.append_assoc] at this
  rw [drop_cons (show k < l.length by omega) [],List.flatMap_cons]
  exact this
theorem rss_go {l:List Bs} (hl:fits l.length) (ha:∀ x ∈ l,small x.length) (hs:small (eStrs l).length):Ends cB 0 (start cB 35 [LS l] []) (Bytes (eStrs l)):=by
 refine Ends.to cB_ok (hints []) (toCall 7) 300 (ps:=[]) (s':=C35 l) (by kernel_rfl) trivial ?_
 have hl':=hl
 unfold fits at hl'
 have h64:in64 (l.length:Int):=by unfold in64; omega
 have he:=enc_len10 h64
 refine Ends.callB cB_ok (g:=93) (ar:=[I ((strs l).length:Nat)]) (l:=enc l.length) (by kernel_rfl) (by rw [strs_len]; exact rnt_new h64) (by kernel_rfl) ?_
 refine rss_0_ trivial ?_
 exact rss_loop hl ha l.length 0 (enc l.length) (by omega) (by unfold small eStrs at hs; rw [List.length_append] at hs; exact hs)
theorem list_strs_new {l:List Bs} (hl:fits l.length) (ha:∀ x ∈ l,small x.length) (hs:small (eStrs l).length):Does PP 91 0 [LS l,.fn 92 []] [] (NewB (eStrs l)):=Bytes.new (does_of cB_ok (by kernel_rfl) (lss_go hl ha hs))
theorem rstrs_new {l:List Bs} (hl:fits l.length) (ha:∀ x ∈ l,small x.length) (hs:small (eStrs l).length):Does PP 35 0 [LS l] [] (NewB (eStrs l)):=Bytes.new (does_of cB_ok (by kernel_rfl) (rss_go hl ha hs))
end Go.Aev.M44
end
section
set_option maxRecDepth 1000000
set_option linter.unusedVariables false
namespace Go.Aev.M44
open Go Go.Aev
def outI (l:List Int):V:=.sl 0 1 0 l.length l.length false
def outIR (l:List Int):Aev.Rows:=[.live (.dat 1 (ints l) false)]
noncomputable def td79:List AItem:=(nextOf (sTo (cL (.ok (0,1))) (hints []) anyLoop 300 (start (cL (.ok (0,1))) 79 [LB [0],I 1,.fn 80 []] []))).fr.todo
noncomputable def H79 (b:List UInt8) (n u k:Int) (v:V) (rows:Aev.Rows):AS:=hd 79 td79 51 [(0,LB b),(2,.fn 80 []),(10,I u),(12,v),(26,I n),(27,I k)] rows
noncomputable def td26:List AItem:=(nextOf (sTo (cL (.ok (0,1))) (hints []) anyLoop 300 (start (cL (.ok (0,1))) 26 [LB [0]] []))).fr.todo
noncomputable def H26 (b:List UInt8) (n u k:Int) (v:V) (rows:Aev.Rows):AS:=hd 26 td26 47 [(0,LB b),(5,I n),(6,I u),(8,v),(9,I k)] rows
end Go.Aev.M44
namespace Go.Aev.M44
theorem gts_e_t {e:Nat} {b:List UInt8} {Q:V→Aev.Rows→Prop} (hp:AllP [isB (bytesL b),short (List.length (bytesL b)),(1:Int) ≤ (1:Int),gLen (List.map unB (bytesL b)) (Int.toNat (1:Int)) = Except.error e,((↑e:Int) != (0:Int)) = true]) (h:Q (V.tup [V.nil,I 0,I (↑e:Int)]) ([])):Ends (cL (.error e)) 0 (start (cL (.error e)) 79 [LB b,I 1,.fn 80 []] []) Q :=
 Ends.toFin (cL_ok (.error e)) (hints [(24,true)] [] [] 0 false true) anyLoop 140 (by kernel_rfl) hp h
theorem gts_k_ {n u:Nat} {b:List UInt8} {Q:V→Aev.Rows→Prop} (hp:AllP [isB (bytesL b),short (List.length (bytesL b)),(1:Int) ≤ (1:Int),gLen (List.map unB (bytesL b)) (Int.toNat (1:Int)) = Except.ok (n,u)]) (h:Ends (cL (.ok (n,u))) 0 (hd 79 td79 51 [(0,V.d (D.list (bytesL b))),(2,V.fn (80) []),(10,I (↑u:Int)),(12,V.nil),(26,I (↑n:Int)),(27,I 0)] []) Q):Ends (cL (.ok (n,u))) 0 (start (cL (.ok (n,u))) 79 [LB b,I 1,.fn 80 []] []) Q :=
  Ends.turn (cL_ok (.ok (n,u))) (hints [] [] [] 0 false true) anyLoop 140 [] [0,
 2,
 10,
 12,
 26,
 27] (by kernel_rfl) hp h
theorem gts_f_ {r:Except Nat (Int × Nat)} {b:List UInt8} {n u k:Int} {l:List Int} {Q:V→Aev.Rows→Prop} (hp:AllP [decide (k < n) = false]) (h:Q (V.tup [V.sl (0) (1) (0) l.length l.length false,I u,I 0]) ([Slot.live (Row.dat (1) (ints l) false)])):Ends (cG r) 0 (H79 b n u k (outI l) (outIR l)) Q :=
 Ends.toFin (cG_ok r) (hints [(28,false)] [] [] 0 false true) anyLoop 140 (by kernel_rfl) hp h
theorem gts_f0_ {r:Except Nat (Int × Nat)} {b:List UInt8} {n u k:Int} {Q:V→Aev.Rows→Prop} (hp:AllP [decide (k < n) = false]) (h:Q (V.tup [V.nil,I u,I 0]) ([])):Ends (cG r) 0 (H79 b n u k .nil []) Q :=
 Ends.toFin (cG_ok r) (hints [(28,false)] [] [] 0 false true) anyLoop 140 (by kernel_rfl) hp h
theorem gts_b_t {e:Nat} {b:List UInt8} {n u k:Int} {v:V} {rows:Aev.Rows} {Q:V→Aev.Rows→Prop} (hp:AllP [decide (k < n) = true,(0:Int) ≤ u,Int.toNat u ≤ List.length (bytesL b)∧List.length (bytesL b) ≤ List.length (bytesL b),(List.all (bytesL b) fun e=>List.length (D.cells e) == 1) = true,isB (List.take (List.length (bytesL b) - Int.toNat u) (List.drop (Int.toNat u) (bytesL b))),short (List.length (List.take (List.length (bytesL b) - Int.toNat u) (List.drop (Int.toNat u) (bytesL b)))),gInt (List.map unB (List.take (List.length (bytesL b) - Int.toNat u) (List.drop (Int.toNat u) (bytesL b)))) = Except.error e,((↑e:Int) != (0:Int)) = true]) (h:Q (V.tup [V.nil,I 0,I (↑e:Int)]) (rows)):Ends (cG (.error e)) 0 (H79 b n u k v rows) Q :=
 Ends.toFin (cG_ok (.error e)) (hints [(28,true),(39,true)] [] [] 0 false true) anyLoop 140 (by kernel_rfl) hp h
theorem gts_t_ {x:Int} {y:Nat} {b:List UInt8} {n u k:Int} {l:List Int} {Q:V→Aev.Rows→Prop} (hp:AllP [decide (k < n) = true,(0:Int) ≤ u,Int.toNat u ≤ List.length (bytesL b)∧List.length (bytesL b) ≤ List.length (bytesL b),(List.all (bytesL b) fun e=>List.length (D.cells e) == 1) = true,isB (List.take (List.length (bytesL b) - Int.toNat u) (List.drop (Int.toNat u) (bytesL b))),short (List.length (List.take (List.length (bytesL b) - Int.toNat u) (List.drop (Int.toNat u) (bytesL b)))),gInt (List.map unB (List.take (List.length (bytesL b) - Int.toNat u) (List.drop (Int.toNat u) (bytesL b)))) = Except.ok (x,y),1 = 1∧1 = 1∧1 ≤ 1,0 < 1∧1 ≠ 0∧1 = 1∧1 = 1∧0 + List.length l ≤ List.length (ints l)∧¬List.length l + 1 ≤ List.length l∧2 * (List.length l + 1) * 8 ≤ 281474976710656∧List.length l + 1 ≤ 4611686018427387904,inInt (u + (↑y:Int)),inInt (k + (1:Int))]) (h:Ends (cG (.ok (x,y))) 0 (hd 79 td79 51 [(0,V.d (D.list (bytesL b))),(2,V.fn (80) []),(10,I (u + (↑y:Int))),(12,V.sl (0) (1) (0) (List.length l + 1) (List.length l + 1) false),(26,I n),(27,I (k + (1:Int)))] [Slot.live (Row.dat (1) (List.take l.length (List.drop (0) (ints l)) ++ [D.int IntKind.i64 x]) false)]) Q):Ends (cG (.ok (x,y))) 0 (H79 b n u k (outI l) (outIR l)) Q :=
  Ends.turn (cG_ok (.ok (x,y))) (hints [(28,true)] [] [] 1 false true) anyLoop 140 [2] [0,
 2,
 10,
 12,
 26,
 27] (by kernel_rfl) hp h
theorem gts_t0_ {x:Int} {y:Nat} {b:List UInt8} {n u k:Int} {Q:V→Aev.Rows→Prop} (hp:AllP [decide (k < n) = true,(0:Int) ≤ u,Int.toNat u ≤ List.length (bytesL b)∧List.length (bytesL b) ≤ List.length (bytesL b),(List.all (bytesL b) fun e=>List.length (D.cells e) == 1) = true,isB (List.take (List.length (bytesL b) - Int.toNat u) (List.drop (Int.toNat u) (bytesL b))),short (List.length (List.take (List.length (bytesL b) - Int.toNat u) (List.drop (Int.toNat u) (bytesL b)))),gInt (List.map unB (List.take (List.length (bytesL b) - Int.toNat u) (List.drop (Int.toNat u) (bytesL b)))) = Except.ok (x,y),inInt (u + (↑y:Int)),inInt (k + (1:Int))]) (h:Ends (cG (.ok (x,y))) 0 (hd 79 td79 51 [(0,V.d (D.list (bytesL b))),(2,V.fn (80) []),(10,I (u + (↑y:Int))),(12,V.sl (0) (1) (0) (1) (1) false),(26,I n),(27,I (k + (1:Int)))] [Slot.live (Row.dat (1) [D.int IntKind.i64 x] false)]) Q):Ends (cG (.ok (x,y))) 0 (H79 b n u k .nil []) Q :=
  Ends.turn (cG_ok (.ok (x,y))) (hints [(28,true)] [] [] 0 false true) anyLoop 140 [1] [0,
 2,
 10,
 12,
 26,
 27] (by kernel_rfl) hp h
end Go.Aev.M44
end
section
namespace Go.Aev.M44
set_option maxRecDepth 1000000
open Go Go.Aev
theorem Ends.cfg {c c':SCfg} (h:c.P = c'.P) {k:Nat} {s:AS} {Q:V→Aev.Rows→Prop} (e:Ends c k s Q):Ends c' k s Q:=by
 unfold Ends at e ⊢
 rw [← h]
 exact e
def vI (l:List Int):V:=if l = [] then .nil else L l
def isV:Except Nat (List Int × Nat)→V
 | .ok (l,u)=>.tup [vI l,I (u:Int),I 0]
 | .error e=>.tup [.nil,I 0,I (e:Int)]
theorem rest_eq (b:Bs) (u:Nat):List.take ((bytesL b).length - Int.toNat (u:Int)) (List.drop (Int.toNat (u:Int)) (bytesL b)) = bytesL (b.drop u):=by
 rw [Int.toNat_natCast,List.take_of_length_le (by rw [List.length_drop]; omega)]
 unfold bytesL; rw [List.map_drop]
noncomputable def HL (b:Bs) (n u k:Int) (l:List Int):AS:=match l with
 | []=>H79 b n u k .nil []
 | x :: r=>H79 b n u k (outI (x :: r)) (outIR (x :: r))
theorem take_ints (l:List Int):List.take l.length (List.drop 0 (ints l)) = ints l:=by
 rw [List.drop_zero,← ints_len l,List.take_length]
theorem conv_ints {l:List Int} {r:Nat} {rows:Aev.Rows} (h:liveAt rows r = some (.dat 1 (ints l) false)):conv1 (liveAt rows) (.sl r 1 0 l.length l.length false) = some (L l):=by
 have:toD1 (liveAt rows) (.sl r 1 0 l.length l.length false) = some (.list (ints l),[(r,.live (.dat 1 (ints l) true))]):=by
  simp only [toD1,h]
  rw [if_pos ⟨trivial,by rw [ints_len]; omega⟩,take_ints]
 simp only [conv1,conv0,this]
def more (l:List Int):Except Nat (List Int × Nat)→Except Nat (List Int × Nat)
 | .ok (m,a)=>.ok (l ++ m,a)
 | .error e=>.error e
theorem gts_loop {b:Bs} (hb:fits b.length):∀ (j k:Nat) (u:Nat) (l:List Int) (n:Nat),k + j = n→u ≤ b.length→l.length ≤ u→n ≤ b.length →
  Ends (cG (.error 0)) 0 (HL b (n:Nat) (u:Nat) (k:Nat) l) (fun v rows=>convV (liveAt rows) v = some (isV (more l (gMany gInt b j u)))):=by
 intro j
 unfold fits at hb
 induction j with
 | zero =>
  intro k u l n hn hu hl hnb
  show Ends _ 0 _ (fun v rows=>convV (liveAt rows) v = some (.tup [vI (l ++ []),I (u:Int),I 0]))
  rw [List.append_nil]
  cases l with
  | nil=>exact gts_f0_ ⟨decide_eq_false (by omega),trivial⟩ rfl
  | cons x r =>
   refine gts_f_ ⟨decide_eq_false (by omega),trivial⟩ ?_
   have:=conv_ints (l:=x :: r) (r:=0) (rows:=[.live (.dat 1 (ints (x :: r)) false)]) rfl
   show (convsBy (conv1 _) [_,_,_]).map V.tup = _
   simp only [convsBy,this]
   rfl
 | succ j ih =>
  intro k u l n hn hu hl hnb
  have hsd:short (b.drop u).length:=by unfold short; rw [List.length_drop]; omega
  cases hg:gInt (b.drop u) with
  | error e =>
   have he:=gInt_err hg
   have em:gMany gInt b (j + 1) u = .error e:=by simp only [gMany,hg]
   rw [em]
   refine Ends.cfg (c:=cG (.error e)) rfl ?_
   cases l with
   | nil=>exact gts_b_t ⟨decide_eq_true (by omega),by omega,by rw [bytesL_len]; omega,all1 b,by rw [rest_eq]; exact isB_bytes _,by rw [rest_eq,bytesL_len]; exact hsd,by rw [rest_eq,unB_bytes]; exact hg,by simp; omega,trivial⟩ rfl
   | cons x r=>exact gts_b_t ⟨decide_eq_true (by omega),by omega,by rw [bytesL_len]; omega,all1 b,by rw [rest_eq]; exact isB_bytes _,by rw [rest_eq,bytesL_len]; exact hsd,by rw [rest_eq,unB_bytes]; exact hg,by simp; omega,trivial⟩ rfl
  | ok p =>
   obtain ⟨x,y⟩:=p
   obtain ⟨g1,g2,g3,g4⟩:=gInt_ok hg
   rw [List.length_drop] at g3
   have key:=ih (k + 1) (u + y) (l ++ [x]) n (by omega) (by omega) (by simp; omega) hnb
   have em:more (l ++ [x]) (gMany gInt b j (u + y)) = more l (gMany gInt b (j + 1) u):=by
    simp only [gMany,hg]
    cases gMany gInt b j (u + y) with
    | error e=>rfl
    | ok q=>obtain ⟨m,a⟩:=q; show Except.ok _ = Except.ok _; simp
   rw [em] at key
   refine Ends.cfg (c:=cG (.ok (x,y))) rfl ?_
   have eu:((u:Int) + (y:Int)) = ((u + y:Nat):Int):=by omega
   have ek:((k:Int) + 1) = ((k + 1:Nat):Int):=by omega
   cases l with
   | nil =>
    refine gts_t0_ ⟨decide_eq_true (by omega),by omega,by rw [bytesL_len]; omega,all1 b,by rw [rest_eq]; exact isB_bytes _,by rw [rest_eq,bytesL_len]; exact hsd,by rw [rest_eq,unB_bytes]; exact hg,by unfold inInt; omega,by unfold inInt; omega,trivial⟩ ?_
    rw [eu,ek]
    exact Ends.cfg (c:=cG (.error 0)) rfl key
   | cons z r =>
    refine gts_t_ ⟨decide_eq_true (by omega),by omega,by rw [bytesL_len]; omega,all1 b,by rw [rest_eq]; exact isB_bytes _,by rw [rest_eq,bytesL_len]; exact hsd,by rw [rest_eq,unB_bytes]; exact hg,⟨rfl,rfl,by omega⟩,⟨by omega,by omega,rfl,rfl,by rw [ints_len]; omega,by omega,by omega,by omega⟩,by unfold inInt; omega,by unfold inInt; omega,trivial⟩ ?_
    rw [eu,ek,take_ints]
    have e1:ints (z :: r) ++ [D.int .i64 x] = ints (z :: r ++ [x]):=by simp [ints]
    rw [e1]
    have e2:(z :: r).length + 1 = (z :: r ++ [x]).length:=by simp
    rw [e2]
    exact Ends.cfg (c:=cG (.error 0)) rfl key
theorem wire_gts {b:Bs} (hb:fits b.length):RCs PP 79 [LB b,I 1,.fn 80 []] [] (isV (gInts b)):=by
 unfold gInts gList
 have hs:short b.length:=by unfold fits at hb; unfold short; omega
 cases hg:gLen b 1 with
 | error e =>
  have he:=gLen_err hg
  exact rcs_of (cL_ok (.error e)) (by kernel_rfl) (gts_e_t ⟨isB_bytes b,by rw [bytesL_len]; exact hs,by omega,by rw [unB_bytes]; exact hg,by simp; omega,trivial⟩ rfl)
 | ok p =>
  obtain ⟨n,u⟩:=p
  obtain ⟨h1,h2,h3⟩:=gLen_ok hg
  refine rcs_of (cL_ok (.ok (n,u))) (by kernel_rfl) (gts_k_ ⟨isB_bytes b,by rw [bytesL_len]; exact hs,by omega,by rw [unB_bytes]; exact hg,trivial⟩ ?_)
  have:=gts_loop hb n 0 u [] n (by omega) (by omega) (by simp) (by omega)
  have em:more [] (gMany gInt b n u) = gMany gInt b n u:=by
   cases gMany gInt b n u with
   | error e=>rfl
   | ok q=>rfl
  rw [em] at this
  exact Ends.cfg (c:=cG (.error 0)) rfl this
end Go.Aev.M44
end
section
set_option maxRecDepth 1000000
set_option linter.unusedVariables false
namespace Go.Aev.M44
open Go Go.Aev
end Go.Aev.M44
namespace Go.Aev.M44
theorem rgs_e_t {e:Nat} {b:List UInt8} {Q:V→Aev.Rows→Prop} (hp:AllP [isB (bytesL b),short (List.length (bytesL b)),(1:Int) ≤ (1:Int),gLen (List.map unB (bytesL b)) (Int.toNat (1:Int)) = Except.error e,((↑e:Int) != (0:Int)) = true]) (h:Q (V.tup [V.nil,I 0,I (↑e:Int)]) ([])):Ends (cL (.error e)) 0 (start (cL (.error e)) 26 [LB b] []) Q :=
 Ends.toFin (cL_ok (.error e)) (hints [(20,true)] [] [] 0 false true) anyLoop 140 (by kernel_rfl) hp h
theorem rgs_k_ {n u:Nat} {b:List UInt8} {Q:V→Aev.Rows→Prop} (hp:AllP [isB (bytesL b),short (List.length (bytesL b)),(1:Int) ≤ (1:Int),gLen (List.map unB (bytesL b)) (Int.toNat (1:Int)) = Except.ok (n,u)]) (h:Ends (cL (.ok (n,u))) 0 (hd 26 td26 47 [(0,V.d (D.list (bytesL b))),(5,I (↑n:Int)),(6,I (↑u:Int)),(8,V.nil),(9,I 0)] []) Q):Ends (cL (.ok (n,u))) 0 (start (cL (.ok (n,u))) 26 [LB b] []) Q :=
 Ends.turn (cL_ok (.ok (n,u))) (hints [] [] [] 0 false true) anyLoop 140 [] [0,5,6,8,9] (by kernel_rfl) hp h
theorem rgs_f_ {r:Except Nat (Int × Nat)} {b:List UInt8} {n u k:Int} {l:List Int} {Q:V→Aev.Rows→Prop} (hp:AllP [decide (k < n) = false]) (h:Q (V.tup [V.sl (0) (1) (0) l.length l.length false,I u,I 0]) ([Slot.live (Row.dat (1) (ints l) false)])):Ends (cG r) 0 (H26 b n u k (outI l) (outIR l)) Q :=
 Ends.toFin (cG_ok r) (hints [(24,false)] [] [] 0 false true) anyLoop 140 (by kernel_rfl) hp h
theorem rgs_f0_ {r:Except Nat (Int × Nat)} {b:List UInt8} {n u k:Int} {Q:V→Aev.Rows→Prop} (hp:AllP [decide (k < n) = false]) (h:Q (V.tup [V.nil,I u,I 0]) ([])):Ends (cG r) 0 (H26 b n u k .nil []) Q :=
 Ends.toFin (cG_ok r) (hints [(24,false)] [] [] 0 false true) anyLoop 140 (by kernel_rfl) hp h
theorem rgs_b_ {e:Nat} {b:List UInt8} {n u k:Int} {v:V} {rows:Aev.Rows} {Q:V→Aev.Rows→Prop} (hp:AllP [decide (k < n) = true,(0:Int) ≤ u,Int.toNat u ≤ List.length (bytesL b)∧List.length (bytesL b) ≤ List.length (bytesL b),(List.all (bytesL b) fun e=>List.length (D.cells e) == 1) = true,isB (List.take (List.length (bytesL b) - Int.toNat u) (List.drop (Int.toNat u) (bytesL b))),short (List.length (List.take (List.length (bytesL b) - Int.toNat u) (List.drop (Int.toNat u) (bytesL b)))),gInt (List.map unB (List.take (List.length (bytesL b) - Int.toNat u) (List.drop (Int.toNat u) (bytesL b)))) = Except.error e,((↑e:Int) != (0:Int)) = true]) (h:Q (V.tup [V.nil,I 0,I (↑e:Int)]) (rows)):Ends (cG (.error e)) 0 (H26 b n u k v rows) Q :=
 Ends.toFin (cG_ok (.error e)) (hints [(24,true),(36,true)] [] [] 0 false true) anyLoop 140 (by kernel_rfl) hp h
theorem rgs_t_ {x:Int} {y:Nat} {b:List UInt8} {n u k:Int} {l:List Int} {Q:V→Aev.Rows→Prop} (hp:AllP [decide (k < n) = true,(0:Int) ≤ u,Int.toNat u ≤ List.length (bytesL b)∧List.length (bytesL b) ≤ List.length (bytesL b),(List.all (bytesL b) fun e=>List.length (D.cells e) == 1) = true,isB (List.take (List.length (bytesL b) - Int.toNat u) (List.drop (Int.toNat u) (bytesL b))),short (List.length (List.take (List.length (bytesL b) - Int.toNat u) (List.drop (Int.toNat u) (bytesL b)))),gInt (List.map unB (List.take (List.length (bytesL b) - Int.toNat u) (List.drop (Int.toNat u) (bytesL b)))) = Except.ok (x,y),1 = 1∧1 = 1∧1 ≤ 1,0 < 1∧1 ≠ 0∧1 = 1∧1 = 1∧0 + List.length l ≤ List.length (ints l)∧¬List.length l + 1 ≤ List.length l∧2 * (List.length l + 1) * 8 ≤ 281474976710656∧List.length l + 1 ≤ 4611686018427387904,inInt (u + (↑y:Int)),inInt (k + (1:Int))]) (h:Ends (cG (.ok (x,y))) 0 (hd 26 td26 47 [(0,V.d (D.list (bytesL b))),(5,I n),(6,I (u + (↑y:Int))),(8,V.sl (0) (1) (0) (List.length l + 1) (List.length l + 1) false),(9,I (k + (1:Int)))] [Slot.live (Row.dat (1) (List.take l.length (List.drop (0) (ints l)) ++ [D.int IntKind.i64 x]) false)]) Q):Ends (cG (.ok (x,y))) 0 (H26 b n u k (outI l) (outIR l)) Q :=
  Ends.turn (cG_ok (.ok (x,y))) (hints [(24,true)] [] [] 1 false true) anyLoop 140 [2] [0,
 5,
 6,
 8,
 9] (by kernel_rfl) hp h
theorem rgs_t0_ {x:Int} {y:Nat} {b:List UInt8} {n u k:Int} {Q:V→Aev.Rows→Prop} (hp:AllP [decide (k < n) = true,(0:Int) ≤ u,Int.toNat u ≤ List.length (bytesL b)∧List.length (bytesL b) ≤ List.length (bytesL b),(List.all (bytesL b) fun e=>List.length (D.cells e) == 1) = true,isB (List.take (List.length (bytesL b) - Int.toNat u) (List.drop (Int.toNat u) (bytesL b))),short (List.length (List.take (List.length (bytesL b) - Int.toNat u) (List.drop (Int.toNat u) (bytesL b)))),gInt (List.map unB (List.take (List.length (bytesL b) - Int.toNat u) (List.drop (Int.toNat u) (bytesL b)))) = Except.ok (x,y),inInt (u + (↑y:Int)),inInt (k + (1:Int))]) (h:Ends (cG (.ok (x,y))) 0 (hd 26 td26 47 [(0,V.d (D.list (bytesL b))),(5,I n),(6,I (u + (↑y:Int))),(8,V.sl (0) (1) (0) (1) (1) false),(9,I (k + (1:Int)))] [Slot.live (Row.dat (1) [D.int IntKind.i64 x] false)]) Q):Ends (cG (.ok (x,y))) 0 (H26 b n u k .nil []) Q :=
  Ends.turn (cG_ok (.ok (x,y))) (hints [(24,true)] [] [] 0 false true) anyLoop 140 [1] [0,
 5,
 6,
 8,
 9] (by kernel_rfl) hp h
end Go.Aev.M44
end
section
namespace Go.Aev.M44
set_option maxRecDepth 1000000
open Go Go.Aev
noncomputable def HR (b:Bs) (n u k:Int) (l:List Int):AS:=match l with
 | []=>H26 b n u k .nil []
 | x :: r=>H26 b n u k (outI (x :: r)) (outIR (x :: r))
theorem rgs_loop {b:Bs} (hb:fits b.length):∀ (j k:Nat) (u:Nat) (l:List Int) (n:Nat),k + j = n→u ≤ b.length→l.length ≤ u→n ≤ b.length →
  Ends (cG (.error 0)) 0 (HR b (n:Nat) (u:Nat) (k:Nat) l) (fun v rows=>convV (liveAt rows) v = some (isV (more l (gMany gInt b j u)))):=by
 intro j
 unfold fits at hb
 induction j with
 | zero =>
  intro k u l n hn hu hl hnb
  show Ends _ 0 _ (fun v rows=>convV (liveAt rows) v = some (.tup [vI (l ++ []),I (u:Int),I 0]))
  rw [List.append_nil]
  cases l with
  | nil=>exact rgs_f0_ ⟨decide_eq_false (by omega),trivial⟩ rfl
  | cons x r =>
   refine rgs_f_ ⟨decide_eq_false (by omega),trivial⟩ ?_
   have:=conv_ints (l:=x :: r) (r:=0) (rows:=[.live (.dat 1 (ints (x :: r)) false)]) rfl
   show (convsBy (conv1 _) [_,_,_]).map V.tup = _
   simp only [convsBy,this]
   rfl
 | succ j ih =>
  intro k u l n hn hu hl hnb
  have hsd:short (b.drop u).length:=by unfold short; rw [List.length_drop]; omega
  cases hg:gInt (b.drop u) with
  | error e =>
   have he:=gInt_err hg
   have em:gMany gInt b (j + 1) u = .error e:=by simp only [gMany,hg]
   rw [em]
   refine Ends.cfg (c:=cG (.error e)) rfl ?_
   cases l with
   | nil=>exact rgs_b_ ⟨decide_eq_true (by omega),by omega,by rw [bytesL_len]; omega,all1 b,by rw [rest_eq]; exact isB_bytes _,by rw [rest_eq,bytesL_len]; exact hsd,by rw [rest_eq,unB_bytes]; exact hg,by simp; omega,trivial⟩ rfl
   | cons x r=>exact rgs_b_ ⟨decide_eq_true (by omega),by omega,by rw [bytesL_len]; omega,all1 b,by rw [rest_eq]; exact isB_bytes _,by rw [rest_eq,bytesL_len]; exact hsd,by rw [rest_eq,unB_bytes]; exact hg,by simp; omega,trivial⟩ rfl
  | ok p =>
   obtain ⟨x,y⟩:=p
   obtain ⟨g1,g2,g3,g4⟩:=gInt_ok hg
   rw [List.length_drop] at g3
   have key:=ih (k + 1) (u + y) (l ++ [x]) n (by omega) (by omega) (by simp; omega) hnb
   have em:more (l ++ [x]) (gMany gInt b j (u + y)) = more l (gMany gInt b (j + 1) u):=by
    simp only [gMany,hg]
    cases gMany gInt b j (u + y) with
    | error e=>rfl
    | ok q=>obtain ⟨m,a⟩:=q; show Except.ok _ = Except.ok _; simp
   rw [em] at key
   refine Ends.cfg (c:=cG (.ok (x,y))) rfl ?_
   have eu:((u:Int) + (y:Int)) = ((u + y:Nat):Int):=by omega
   have ek:((k:Int) + 1) = ((k + 1:Nat):Int):=by omega
   cases l with
   | nil =>
    refine rgs_t0_ ⟨decide_eq_true (by omega),by omega,by rw [bytesL_len]; omega,all1 b,by rw [rest_eq]; exact isB_bytes _,by rw [rest_eq,bytesL_len]; exact hsd,by rw [rest_eq,unB_bytes]; exact hg,by unfold inInt; omega,by unfold inInt; omega,trivial⟩ ?_
    rw [eu,ek]
    exact Ends.cfg (c:=cG (.error 0)) rfl key
   | cons z r =>
    refine rgs_t_ ⟨decide_eq_true (by omega),by omega,by rw [bytesL_len]; omega,all1 b,by rw [rest_eq]; exact isB_bytes _,by rw [rest_eq,bytesL_len]; exact hsd,by rw [rest_eq,unB_bytes]; exact hg,⟨rfl,rfl,by omega⟩,⟨by omega,by omega,rfl,rfl,by rw [ints_len]; omega,by omega,by omega,by omega⟩,by unfold inInt; omega,by unfold inInt; omega,trivial⟩ ?_
    rw [eu,ek,take_ints]
    have e1:ints (z :: r) ++ [D.int .i64 x] = ints (z :: r ++ [x]):=by simp [ints]
    rw [e1]
    have e2:(z :: r).length + 1 = (z :: r ++ [x]).length:=by simp
    rw [e2]
    exact Ends.cfg (c:=cG (.error 0)) rfl key
theorem ref_gts {b:Bs} (hb:fits b.length):RCs PP 26 [LB b] [] (isV (gInts b)):=by
 unfold gInts gList
 have hs:short b.length:=by unfold fits at hb; unfold short; omega
 cases hg:gLen b 1 with
 | error e =>
  have he:=gLen_err hg
  exact rcs_of (cL_ok (.error e)) (by kernel_rfl) (rgs_e_t ⟨isB_bytes b,by rw [bytesL_len]; exact hs,by omega,by rw [unB_bytes]; exact hg,by simp; omega,trivial⟩ rfl)
 | ok p =>
  obtain ⟨n,u⟩:=p
  obtain ⟨h1,h2,h3⟩:=gLen_ok hg
  refine rcs_of (cL_ok (.ok (n,u))) (by kernel_rfl) (rgs_k_ ⟨isB_bytes b,by rw [bytesL_len]; exact hs,by omega,by rw [unB_bytes]; exact hg,trivial⟩ ?_)
  have:=rgs_loop hb n 0 u [] n (by omega) (by omega) (by simp) (by omega)
  have em:more [] (gMany gInt b n u) = gMany gInt b n u:=by
   cases gMany gInt b n u with
   | error e=>rfl
   | ok q=>rfl
  rw [em] at this
  exact Ends.cfg (c:=cG (.error 0)) rfl this
end Go.Aev.M44
end
section
namespace Go.Aev.M44
set_option maxRecDepth 1000000
open Go Go.Aev
noncomputable def tabS (r:Except Nat (Bs × Nat)) (g:FuncId) (args:List V) (rows:Aev.Rows):Option (List Prop × V) :=
 match g,args with
 | 82,[v]=>match listOf rows v with
  | some (ps,es)=>some (ps ++ [isB es,short es.length,gBytes (es.map unB) = r],bV r)
  | none=>none
 | 86,[v]=>match listOf rows v with
  | some (ps,es)=>some (ps ++ [isB es,short es.length,gBytes (es.map unB) = r],bV r)
  | none=>none
 | _,_=>none
noncomputable def cS (r:Except Nat (Bs × Nat)):SCfg:=mk (fun _=>true) (tabS r)
theorem tabS_ok {r:Except Nat (Bs × Nat)} {g:FuncId} {args:List V} {rows:Aev.Rows} {ps:List Prop} {v:V} (h:tabS r g args rows = some (ps,v)) (hp:AllP ps):RCs PP g args rows v:=by
 unfold tabS at h
 split at h
 ·split at h
  ·rename_i qs es hl
   cases h
   obtain ⟨h1,h2,h3,h4,_⟩:=AllP_append hp
   have:=wire_gby (b:=es.map unB) (by rw [List.length_map]; exact h3)
   rw [h4] at this
   refine this.of_lists (.cons ?_ .nil)
   have e:LB (es.map unB) = .d (.list es):=by unfold isB at h2; rw [LB,← h2]
   rw [e]; exact .list hl h1
  ·cases h
 ·split at h
  ·rename_i qs es hl
   cases h
   obtain ⟨h1,h2,h3,h4,_⟩:=AllP_append hp
   have:=ref_gby (b:=es.map unB) (by rw [List.length_map]; exact h3)
   rw [h4] at this
   refine this.of_lists (.cons ?_ .nil)
   have e:LB (es.map unB) = .d (.list es):=by unfold isB at h2; rw [LB,← h2]
   rw [e]; exact .list hl h1
  ·cases h
 ·cases h
theorem cS_ok (r:Except Nat (Bs × Nat)):COK (cS r).cfg:=mk_ok fun g args rows ps v h hp=>tabS_ok h hp
def outS (l:List Bs):V:=.sl 0 1 0 l.length l.length false
def outSR (l:List Bs):Aev.Rows:=[.live (.dat 1 (strs l) false)]
noncomputable def td81:List AItem:=(nextOf (sTo (cL (.ok (0,1))) (hints []) anyLoop 300 (start (cL (.ok (0,1))) 81 [LB [0],I 1,.fn 82 []] []))).fr.todo
noncomputable def H81 (b:List UInt8) (n u k:Int) (v:V) (rows:Aev.Rows):AS:=hd 81 td81 51 [(0,LB b),(2,.fn 82 []),(10,I u),(12,v),(26,I n),(27,I k)] rows
noncomputable def td27:List AItem:=(nextOf (sTo (cL (.ok (0,1))) (hints []) anyLoop 300 (start (cL (.ok (0,1))) 27 [LB [0]] []))).fr.todo
noncomputable def H27 (b:List UInt8) (n u k:Int) (v:V) (rows:Aev.Rows):AS:=hd 27 td27 47 [(0,LB b),(5,I n),(6,I u),(8,v),(9,I k)] rows
end Go.Aev.M44
end
section
set_option maxRecDepth 1000000
set_option linter.unusedVariables false
namespace Go.Aev.M44
open Go Go.Aev
end Go.Aev.M44
namespace Go.Aev.M44
theorem rgg_e_t {e:Nat} {b:List UInt8} {Q:V→Aev.Rows→Prop} (hp:AllP [isB (bytesL b),short (List.length (bytesL b)),(1:Int) ≤ (1:Int),gLen (List.map unB (bytesL b)) (Int.toNat (1:Int)) = Except.error e,((↑e:Int) != (0:Int)) = true]) (h:Q (V.tup [V.nil,I 0,I (↑e:Int)]) ([])):Ends (cL (.error e)) 0 (start (cL (.error e)) 27 [LB b] []) Q :=
 Ends.toFin (cL_ok (.error e)) (hints [(20,true)] [] [] 0 false true) anyLoop 140 (by kernel_rfl) hp h
theorem rgg_k_ {n u:Nat} {b:List UInt8} {Q:V→Aev.Rows→Prop} (hp:AllP [isB (bytesL b),short (List.length (bytesL b)),(1:Int) ≤ (1:Int),gLen (List.map unB (bytesL b)) (Int.toNat (1:Int)) = Except.ok (n,u)]) (h:Ends (cL (.ok (n,u))) 0 (hd 27 td27 47 [(0,V.d (D.list (bytesL b))),(5,I (↑n:Int)),(6,I (↑u:Int)),(8,V.nil),(9,I 0)] []) Q):Ends (cL (.ok (n,u))) 0 (start (cL (.ok (n,u))) 27 [LB b] []) Q :=
 Ends.turn (cL_ok (.ok (n,u))) (hints [] [] [] 0 false true) anyLoop 140 [] [0,5,6,8,9] (by kernel_rfl) hp h
theorem rgg_f_ {r:Except Nat (Bs × Nat)} {b:List UInt8} {n u k:Int} {l:List Bs} {Q:V→Aev.Rows→Prop} (hp:AllP [decide (k < n) = false]) (h:Q (V.tup [V.sl (0) (1) (0) l.length l.length false,I u,I 0]) ([Slot.live (Row.dat (1) (strs l) false)])):Ends (cS r) 0 (H27 b n u k (outS l) (outSR l)) Q :=
 Ends.toFin (cS_ok r) (hints [(24,false)] [] [] 0 false true) anyLoop 140 (by kernel_rfl) hp h
theorem rgg_f0_ {r:Except Nat (Bs × Nat)} {b:List UInt8} {n u k:Int} {Q:V→Aev.Rows→Prop} (hp:AllP [decide (k < n) = false]) (h:Q (V.tup [V.nil,I u,I 0]) ([])):Ends (cS r) 0 (H27 b n u k .nil []) Q :=
 Ends.toFin (cS_ok r) (hints [(24,false)] [] [] 0 false true) anyLoop 140 (by kernel_rfl) hp h
theorem rgg_b_ {e:Nat} {b:List UInt8} {n u k:Int} {v:V} {rows:Aev.Rows} {Q:V→Aev.Rows→Prop} (hp:AllP [decide (k < n) = true,(0:Int) ≤ u,Int.toNat u ≤ List.length (bytesL b)∧List.length (bytesL b) ≤ List.length (bytesL b),(List.all (bytesL b) fun e=>List.length (D.cells e) == 1) = true,isB (List.take (List.length (bytesL b) - Int.toNat u) (List.drop (Int.toNat u) (bytesL b))),short (List.length (List.take (List.length (bytesL b) - Int.toNat u) (List.drop (Int.toNat u) (bytesL b)))),gBytes (List.map unB (List.take (List.length (bytesL b) - Int.toNat u) (List.drop (Int.toNat u) (bytesL b)))) = Except.error e,((↑e:Int) != (0:Int)) = true]) (h:Q (V.tup [V.nil,I 0,I (↑e:Int)]) (rows)):Ends (cS (.error e)) 0 (H27 b n u k v rows) Q :=
 Ends.toFin (cS_ok (.error e)) (hints [(24,true),(36,true)] [] [] 0 false true) anyLoop 140 (by kernel_rfl) hp h
theorem rgg_t_ {x:Bs} {y:Nat} {b:List UInt8} {n u k:Int} {l:List Bs} {Q:V→Aev.Rows→Prop} (hp:AllP [decide (k < n) = true,(0:Int) ≤ u,Int.toNat u ≤ List.length (bytesL b)∧List.length (bytesL b) ≤ List.length (bytesL b),(List.all (bytesL b) fun e=>List.length (D.cells e) == 1) = true,isB (List.take (List.length (bytesL b) - Int.toNat u) (List.drop (Int.toNat u) (bytesL b))),short (List.length (List.take (List.length (bytesL b) - Int.toNat u) (List.drop (Int.toNat u) (bytesL b)))),gBytes (List.map unB (List.take (List.length (bytesL b) - Int.toNat u) (List.drop (Int.toNat u) (bytesL b)))) = Except.ok (x,y),1 = 1∧1 = 1∧1 ≤ 1,0 < 1∧1 ≠ 0∧1 = 1∧1 = 1∧0 + List.length l ≤ List.length (strs l)∧¬List.length l + 1 ≤ List.length l∧2 * (List.length l + 1) * 16 ≤ 281474976710656∧List.length l + 1 ≤ 4611686018427387904,inInt (u + (↑y:Int)),inInt (k + (1:Int))]) (h:Ends (cS (.ok (x,y))) 0 (hd 27 td27 47 [(0,V.d (D.list (bytesL b))),(5,I n),(6,I (u + (↑y:Int))),(8,V.sl (0) (1) (0) (List.length l + 1) (List.length l + 1) false),(9,I (k + (1:Int)))] [Slot.live (Row.dat (1) (List.take l.length (List.drop (0) (strs l)) ++ [D.str { data:={ toList:=x } }]) false)]) Q):Ends (cS (.ok (x,y))) 0 (H27 b n u k (outS l) (outSR l)) Q :=
  Ends.turn (cS_ok (.ok (x,y))) (hints [(24,true)] [] [] 1 false true) anyLoop 140 [2] [0,
 5,
 6,
 8,
 9] (by kernel_rfl) hp h
theorem rgg_t0_ {x:Bs} {y:Nat} {b:List UInt8} {n u k:Int} {Q:V→Aev.Rows→Prop} (hp:AllP [decide (k < n) = true,(0:Int) ≤ u,Int.toNat u ≤ List.length (bytesL b)∧List.length (bytesL b) ≤ List.length (bytesL b),(List.all (bytesL b) fun e=>List.length (D.cells e) == 1) = true,isB (List.take (List.length (bytesL b) - Int.toNat u) (List.drop (Int.toNat u) (bytesL b))),short (List.length (List.take (List.length (bytesL b) - Int.toNat u) (List.drop (Int.toNat u) (bytesL b)))),gBytes (List.map unB (List.take (List.length (bytesL b) - Int.toNat u) (List.drop (Int.toNat u) (bytesL b)))) = Except.ok (x,y),inInt (u + (↑y:Int)),inInt (k + (1:Int))]) (h:Ends (cS (.ok (x,y))) 0 (hd 27 td27 47 [(0,V.d (D.list (bytesL b))),(5,I n),(6,I (u + (↑y:Int))),(8,V.sl (0) (1) (0) (1) (1) false),(9,I (k + (1:Int)))] [Slot.live (Row.dat (1) [D.str { data:={ toList:=x } }] false)]) Q):Ends (cS (.ok (x,y))) 0 (H27 b n u k .nil []) Q :=
  Ends.turn (cS_ok (.ok (x,y))) (hints [(24,true)] [] [] 0 false true) anyLoop 140 [1] [0,
 5,
 6,
 8,
 9] (by kernel_rfl) hp h
end Go.Aev.M44
end
section
set_option maxRecDepth 1000000
set_option linter.unusedVariables false
namespace Go.Aev.M44
open Go Go.Aev
end Go.Aev.M44
namespace Go.Aev.M44
theorem gss_e_ {e:Nat} {b:List UInt8} {Q:V→Aev.Rows→Prop} (hp:AllP [isB (bytesL b),short (List.length (bytesL b)),(1:Int) ≤ (1:Int),gLen (List.map unB (bytesL b)) (Int.toNat (1:Int)) = Except.error e,((↑e:Int) != (0:Int)) = true]) (h:Q (V.tup [V.nil,I 0,I (↑e:Int)]) ([])):Ends (cL (.error e)) 0 (start (cL (.error e)) 81 [LB b,I 1,.fn 82 []] []) Q :=
 Ends.toFin (cL_ok (.error e)) (hints [(24,true)] [] [] 0 false true) anyLoop 140 (by kernel_rfl) hp h
theorem gss_k_ {n u:Nat} {b:List UInt8} {Q:V→Aev.Rows→Prop} (hp:AllP [isB (bytesL b),short (List.length (bytesL b)),(1:Int) ≤ (1:Int),gLen (List.map unB (bytesL b)) (Int.toNat (1:Int)) = Except.ok (n,u)]) (h:Ends (cL (.ok (n,u))) 0 (hd 81 td81 51 [(0,V.d (D.list (bytesL b))),(2,V.fn (82) []),(10,I (↑u:Int)),(12,V.nil),(26,I (↑n:Int)),(27,I 0)] []) Q):Ends (cL (.ok (n,u))) 0 (start (cL (.ok (n,u))) 81 [LB b,I 1,.fn 82 []] []) Q :=
  Ends.turn (cL_ok (.ok (n,u))) (hints [] [] [] 0 false true) anyLoop 140 [] [0,
 2,
 10,
 12,
 26,
 27] (by kernel_rfl) hp h
theorem gss_f_ {r:Except Nat (Bs × Nat)} {b:List UInt8} {n u k:Int} {l:List Bs} {Q:V→Aev.Rows→Prop} (hp:AllP [decide (k < n) = false]) (h:Q (V.tup [V.sl (0) (1) (0) l.length l.length false,I u,I 0]) ([Slot.live (Row.dat (1) (strs l) false)])):Ends (cS r) 0 (H81 b n u k (outS l) (outSR l)) Q :=
 Ends.toFin (cS_ok r) (hints [(28,false)] [] [] 0 false true) anyLoop 140 (by kernel_rfl) hp h
theorem gss_f0_ {r:Except Nat (Bs × Nat)} {b:List UInt8} {n u k:Int} {Q:V→Aev.Rows→Prop} (hp:AllP [decide (k < n) = false]) (h:Q (V.tup [V.nil,I u,I 0]) ([])):Ends (cS r) 0 (H81 b n u k .nil []) Q :=
 Ends.toFin (cS_ok r) (hints [(28,false)] [] [] 0 false true) anyLoop 140 (by kernel_rfl) hp h
theorem gss_b_ {e:Nat} {b:List UInt8} {n u k:Int} {v:V} {rows:Aev.Rows} {Q:V→Aev.Rows→Prop} (hp:AllP [decide (k < n) = true,(0:Int) ≤ u,Int.toNat u ≤ List.length (bytesL b)∧List.length (bytesL b) ≤ List.length (bytesL b),(List.all (bytesL b) fun e=>List.length (D.cells e) == 1) = true,isB (List.take (List.length (bytesL b) - Int.toNat u) (List.drop (Int.toNat u) (bytesL b))),short (List.length (List.take (List.length (bytesL b) - Int.toNat u) (List.drop (Int.toNat u) (bytesL b)))),gBytes (List.map unB (List.take (List.length (bytesL b) - Int.toNat u) (List.drop (Int.toNat u) (bytesL b)))) = Except.error e,((↑e:Int) != (0:Int)) = true]) (h:Q (V.tup [V.nil,I 0,I (↑e:Int)]) (rows)):Ends (cS (.error e)) 0 (H81 b n u k v rows) Q :=
 Ends.toFin (cS_ok (.error e)) (hints [(28,true),(39,true)] [] [] 0 false true) anyLoop 140 (by kernel_rfl) hp h
theorem gss_t_ {x:Bs} {y:Nat} {b:List UInt8} {n u k:Int} {l:List Bs} {Q:V→Aev.Rows→Prop} (hp:AllP [decide (k < n) = true,(0:Int) ≤ u,Int.toNat u ≤ List.length (bytesL b)∧List.length (bytesL b) ≤ List.length (bytesL b),(List.all (bytesL b) fun e=>List.length (D.cells e) == 1) = true,isB (List.take (List.length (bytesL b) - Int.toNat u) (List.drop (Int.toNat u) (bytesL b))),short (List.length (List.take (List.length (bytesL b) - Int.toNat u) (List.drop (Int.toNat u) (bytesL b)))),gBytes (List.map unB (List.take (List.length (bytesL b) - Int.toNat u) (List.drop (Int.toNat u) (bytesL b)))) = Except.ok (x,y),1 = 1∧1 = 1∧1 ≤ 1,0 < 1∧1 ≠ 0∧1 = 1∧1 = 1∧0 + List.length l ≤ List.length (strs l)∧¬List.length l + 1 ≤ List.length l∧2 * (List.length l + 1) * 16 ≤ 281474976710656∧List.length l + 1 ≤ 4611686018427387904,inInt (u + (↑y:Int)),inInt (k + (1:Int))]) (h:Ends (cS (.ok (x,y))) 0 (hd 81 td81 51 [(0,V.d (D.list (bytesL b))),(2,V.fn (82) []),(10,I (u + (↑y:Int))),(12,V.sl (0) (1) (0) (List.length l + 1) (List.length l + 1) false),(26,I n),(27,I (k + (1:Int)))] [Slot.live (Row.dat (1) (List.take l.length (List.drop (0) (strs l)) ++ [D.str { data:={ toList:=x } }]) false)]) Q):Ends (cS (.ok (x,y))) 0 (H81 b n u k (outS l) (outSR l)) Q :=
  Ends.turn (cS_ok (.ok (x,y))) (hints [(28,true)] [] [] 1 false true) anyLoop 140 [2] [0,
 2,
 10,
 12,
 26,
 27] (by kernel_rfl) hp h
theorem gss_t0_ {x:Bs} {y:Nat} {b:List UInt8} {n u k:Int} {Q:V→Aev.Rows→Prop} (hp:AllP [decide (k < n) = true,(0:Int) ≤ u,Int.toNat u ≤ List.length (bytesL b)∧List.length (bytesL b) ≤ List.length (bytesL b),(List.all (bytesL b) fun e=>List.length (D.cells e) == 1) = true,isB (List.take (List.length (bytesL b) - Int.toNat u) (List.drop (Int.toNat u) (bytesL b))),short (List.length (List.take (List.length (bytesL b) - Int.toNat u) (List.drop (Int.toNat u) (bytesL b)))),gBytes (List.map unB (List.take (List.length (bytesL b) - Int.toNat u) (List.drop (Int.toNat u) (bytesL b)))) = Except.ok (x,y),inInt (u + (↑y:Int)),inInt (k + (1:Int))]) (h:Ends (cS (.ok (x,y))) 0 (hd 81 td81 51 [(0,V.d (D.list (bytesL b))),(2,V.fn (82) []),(10,I (u + (↑y:Int))),(12,V.sl (0) (1) (0) (1) (1) false),(26,I n),(27,I (k + (1:Int)))] [Slot.live (Row.dat (1) [D.str { data:={ toList:=x } }] false)]) Q):Ends (cS (.ok (x,y))) 0 (H81 b n u k .nil []) Q :=
  Ends.turn (cS_ok (.ok (x,y))) (hints [(28,true)] [] [] 0 false true) anyLoop 140 [1] [0,
 2,
 10,
 12,
 26,
 27] (by kernel_rfl) hp h
end Go.Aev.M44
end
section
namespace Go.Aev.M44
set_option maxRecDepth 1000000
open Go Go.Aev
def vS (l:List Bs):V:=if l = [] then .nil else LS l
def ssV:Except Nat (List Bs × Nat)→V
 | .ok (l,u)=>.tup [vS l,I (u:Int),I 0]
 | .error e=>.tup [.nil,I 0,I (e:Int)]
theorem gBytes_err {b:Bs} {e:Nat} (h:gBytes b = .error e):e ≠ 0:=by
 unfold gBytes at h
 split at h
 ·rename_i e' he; cases h; exact gLen_err he
 ·cases h
theorem gBytes_pos {b x:Bs} {y:Nat} (hb:short b.length) (h:gBytes b = .ok (x,y)):1 ≤ y∧y ≤ b.length:=by
 obtain ⟨h1,h2,h3⟩:=bytes_fit.back b x y hb h
 refine ⟨?_,h1⟩
 have:=bytes_fit.pos x
 rw [← h2,List.length_take] at this
 omega
def moreS (l:List Bs):Except Nat (List Bs × Nat)→Except Nat (List Bs × Nat)
 | .ok (m,a)=>.ok (l ++ m,a)
 | .error e=>.error e
noncomputable def HT (b:Bs) (n u k:Int) (l:List Bs):AS:=match l with
 | []=>H81 b n u k .nil []
 | x :: r=>H81 b n u k (outS (x :: r)) (outSR (x :: r))
theorem take_strs (l:List Bs):List.take l.length (List.drop 0 (strs l)) = strs l:=by
 rw [List.drop_zero,← strs_len l,List.take_length]
theorem conv_strs {l:List Bs} {r:Nat} {rows:Aev.Rows} (h:liveAt rows r = some (.dat 1 (strs l) false)):conv1 (liveAt rows) (.sl r 1 0 l.length l.length false) = some (LS l):=by
 have:toD1 (liveAt rows) (.sl r 1 0 l.length l.length false) = some (.list (strs l),[(r,.live (.dat 1 (strs l) true))]):=by
  simp only [toD1,h]
  rw [if_pos ⟨trivial,by rw [strs_len]; omega⟩,take_strs]
 simp only [conv1,conv0,this]
theorem gss_loop {b:Bs} (hb:fits b.length):∀ (j k:Nat) (u:Nat) (l:List Bs) (n:Nat),k + j = n→u ≤ b.length→l.length ≤ u→n ≤ b.length →
  Ends (cS (.error 0)) 0 (HT b (n:Nat) (u:Nat) (k:Nat) l) (fun v rows=>convV (liveAt rows) v = some (ssV (moreS l (gMany gBytes b j u)))):=by
 intro j
 unfold fits at hb
 induction j with
 | zero =>
  intro k u l n hn hu hl hnb
  show Ends _ 0 _ (fun v rows=>convV (liveAt rows) v = some (.tup [vS (l ++ []),I (u:Int),I 0]))
  rw [List.append_nil]
  cases l with
  | nil=>exact gss_f0_ ⟨decide_eq_false (by omega),trivial⟩ rfl
  | cons x r =>
   refine gss_f_ ⟨decide_eq_false (by omega),trivial⟩ ?_
   have:=conv_strs (l:=x :: r) (r:=0) (rows:=[.live (.dat 1 (strs (x :: r)) false)]) rfl
   show (convsBy (conv1 _) [_,_,_]).map V.tup = _
   simp only [convsBy,this]
   rfl
 | succ j ih =>
  intro k u l n hn hu hl hnb
  have hsd:short (b.drop u).length:=by unfold short; rw [List.length_drop]; omega
  cases hg:gBytes (b.drop u) with
  | error e =>
   have he:=gBytes_err hg
   have em:gMany gBytes b (j + 1) u = .error e:=by simp only [gMany,hg]
   rw [em]
   refine Ends.cfg (c:=cS (.error e)) rfl ?_
   cases l with
   | nil=>exact gss_b_ ⟨decide_eq_true (by omega),by omega,by rw [bytesL_len]; omega,all1 b,by rw [rest_eq]; exact isB_bytes _,by rw [rest_eq,bytesL_len]; exact hsd,by rw [rest_eq,unB_bytes]; exact hg,by simp; omega,trivial⟩ rfl
   | cons x r=>exact gss_b_ ⟨decide_eq_true (by omega),by omega,by rw [bytesL_len]; omega,all1 b,by rw [rest_eq]; exact isB_bytes _,by rw [rest_eq,bytesL_len]; exact hsd,by rw [rest_eq,unB_bytes]; exact hg,by simp; omega,trivial⟩ rfl
  | ok p =>
   obtain ⟨x,y⟩:=p
   obtain ⟨g2,g3⟩:=gBytes_pos hsd hg
   rw [List.length_drop] at g3
   have key:=ih (k + 1) (u + y) (l ++ [x]) n (by omega) (by omega) (by simp; omega) hnb
   have em:moreS (l ++ [x]) (gMany gBytes b j (u + y)) = moreS l (gMany gBytes b (j + 1) u):=by
    simp only [gMany,hg]
    cases gMany gBytes b j (u + y) with
    | error e=>rfl
    | ok q=>obtain ⟨m,a⟩:=q; show Except.ok _ = Except.ok _; simp
   rw [em] at key
   refine Ends.cfg (c:=cS (.ok (x,y))) rfl ?_
   have eu:((u:Int) + (y:Int)) = ((u + y:Nat):Int):=by omega
   have ek:((k:Int) + 1) = ((k + 1:Nat):Int):=by omega
   cases l with
   | nil =>
    refine gss_t0_ ⟨decide_eq_true (by omega),by omega,by rw [bytesL_len]; omega,all1 b,by rw [rest_eq]; exact isB_bytes _,by rw [rest_eq,bytesL_len]; exact hsd,by rw [rest_eq,unB_bytes]; exact hg,by unfold inInt; omega,by unfold inInt; omega,trivial⟩ ?_
    rw [eu,ek]
    exact Ends.cfg (c:=cS (.error 0)) rfl key
   | cons z r =>
    refine gss_t_ ⟨decide_eq_true (by omega),by omega,by rw [bytesL_len]; omega,all1 b,by rw [rest_eq]; exact isB_bytes _,by rw [rest_eq,bytesL_len]; exact hsd,by rw [rest_eq,unB_bytes]; exact hg,⟨rfl,rfl,by omega⟩,⟨by omega,by omega,rfl,rfl,by rw [strs_len]; omega,by omega,by omega,by omega⟩,by unfold inInt; omega,by unfold inInt; omega,trivial⟩ ?_
    rw [eu,ek,take_strs]
    have e1:strs (z :: r) ++ [D.str { data:={ toList:=x } }] = strs (z :: r ++ [x]):=by simp [strs,strD]
    rw [e1]
    have e2:(z :: r).length + 1 = (z :: r ++ [x]).length:=by simp
    rw [e2]
    exact Ends.cfg (c:=cS (.error 0)) rfl key
theorem wire_gss {b:Bs} (hb:fits b.length):RCs PP 81 [LB b,I 1,.fn 82 []] [] (ssV (gStrs b)):=by
 unfold gStrs gList
 have hs:short b.length:=by unfold fits at hb; unfold short; omega
 cases hg:gLen b 1 with
 | error e =>
  have he:=gLen_err hg
  exact rcs_of (cL_ok (.error e)) (by kernel_rfl) (gss_e_ ⟨isB_bytes b,by rw [bytesL_len]; exact hs,by omega,by rw [unB_bytes]; exact hg,by simp; omega,trivial⟩ rfl)
 | ok p =>
  obtain ⟨n,u⟩:=p
  obtain ⟨h1,h2,h3⟩:=gLen_ok hg
  refine rcs_of (cL_ok (.ok (n,u))) (by kernel_rfl) (gss_k_ ⟨isB_bytes b,by rw [bytesL_len]; exact hs,by omega,by rw [unB_bytes]; exact hg,trivial⟩ ?_)
  have:=gss_loop hb n 0 u [] n (by omega) (by omega) (by simp) (by omega)
  have em:moreS [] (gMany gBytes b n u) = gMany gBytes b n u:=by
   cases gMany gBytes b n u with
   | error e=>rfl
   | ok q=>rfl
  rw [em] at this
  exact Ends.cfg (c:=cS (.error 0)) rfl this
end Go.Aev.M44
end
section
namespace Go.Aev.M44
set_option maxRecDepth 1000000
open Go Go.Aev
noncomputable def HU (b:Bs) (n u k:Int) (l:List Bs):AS:=match l with
 | []=>H27 b n u k .nil []
 | x :: r=>H27 b n u k (outS (x :: r)) (outSR (x :: r))
theorem rgg_loop {b:Bs} (hb:fits b.length):∀ (j k:Nat) (u:Nat) (l:List Bs) (n:Nat),k + j = n→u ≤ b.length→l.length ≤ u→n ≤ b.length →
  Ends (cS (.error 0)) 0 (HU b (n:Nat) (u:Nat) (k:Nat) l) (fun v rows=>convV (liveAt rows) v = some (ssV (moreS l (gMany gBytes b j u)))):=by
 intro j
 unfold fits at hb
 induction j with
 | zero =>
  intro k u l n hn hu hl hnb
  show Ends _ 0 _ (fun v rows=>convV (liveAt rows) v = some (.tup [vS (l ++ []),I (u:Int),I 0]))
  rw [List.append_nil]
  cases l with
  | nil=>exact rgg_f0_ ⟨decide_eq_false (by omega),trivial⟩ rfl
  | cons x r =>
   refine rgg_f_ ⟨decide_eq_false (by omega),trivial⟩ ?_
   have:=conv_strs (l:=x :: r) (r:=0) (rows:=[.live (.dat 1 (strs (x :: r)) false)]) rfl
   show (convsBy (conv1 _) [_,_,_]).map V.tup = _
   simp only [convsBy,this]
   rfl
 | succ j ih =>
  intro k u l n hn hu hl hnb
  have hsd:short (b.drop u).length:=by unfold short; rw [List.length_drop]; omega
  cases hg:gBytes (b.drop u) with
  | error e =>
   have he:=gBytes_err hg
   have em:gMany gBytes b (j + 1) u = .error e:=by simp only [gMany,hg]
   rw [em]
   refine Ends.cfg (c:=cS (.error e)) rfl ?_
   cases l with
   | nil=>exact rgg_b_ ⟨decide_eq_true (by omega),by omega,by rw [bytesL_len]; omega,all1 b,by rw [rest_eq]; exact isB_bytes _,by rw [rest_eq,bytesL_len]; exact hsd,by rw [rest_eq,unB_bytes]; exact hg,by simp; omega,trivial⟩ rfl
   | cons x r=>exact rgg_b_ ⟨decide_eq_true (by omega),by omega,by rw [bytesL_len]; omega,all1 b,by rw [rest_eq]; exact isB_bytes _,by rw [rest_eq,bytesL_len]; exact hsd,by rw [rest_eq,unB_bytes]; exact hg,by simp; omega,trivial⟩ rfl
  | ok p =>
   obtain ⟨x,y⟩:=p
   obtain ⟨g2,g3⟩:=gBytes_pos hsd hg
   rw [List.length_drop] at g3
   have key:=ih (k + 1) (u + y) (l ++ [x]) n (by omega) (by omega) (by simp; omega) hnb
   have em:moreS (l ++ [x]) (gMany gBytes b j (u + y)) = moreS l (gMany gBytes b (j + 1) u):=by
    simp only [gMany,hg]
    cases gMany gBytes b j (u + y) with
    | error e=>rfl
    | ok q=>obtain ⟨m,a⟩:=q; show Except.ok _ = Except.ok _; simp
   rw [em] at key
   refine Ends.cfg (c:=cS (.ok (x,y))) rfl ?_
   have eu:((u:Int) + (y:Int)) = ((u + y:Nat):Int):=by omega
   have ek:((k:Int) + 1) = ((k + 1:Nat):Int):=by omega
   cases l with
   | nil =>
    refine rgg_t0_ ⟨decide_eq_true (by omega),by omega,by rw [bytesL_len]; omega,all1 b,by rw [rest_eq]; exact isB_bytes _,by rw [rest_eq,bytesL_len]; exact hsd,by rw [rest_eq,unB_bytes]; exact hg,by unfold inInt; omega,by unfold inInt; omega,trivial⟩ ?_
    rw [eu,ek]
    exact Ends.cfg (c:=cS (.error 0)) rfl key
   | cons z r =>
    refine rgg_t_ ⟨decide_eq_true (by omega),by omega,by rw [bytesL_len]; omega,all1 b,by rw [rest_eq]; exact isB_bytes _,by rw [rest_eq,bytesL_len]; exact hsd,by rw [rest_eq,unB_bytes]; exact hg,⟨rfl,rfl,by omega⟩,⟨by omega,by omega,rfl,rfl,by rw [strs_len]; omega,by omega,by omega,by omega⟩,by unfold inInt; omega,by unfold inInt; omega,trivial⟩ ?_
    rw [eu,ek,take_strs]
    have e1:strs (z :: r) ++ [D.str { data:={ toList:=x } }] = strs (z :: r ++ [x]):=by simp [strs,strD]
    rw [e1]
    have e2:(z :: r).length + 1 = (z :: r ++ [x]).length:=by simp
    rw [e2]
    exact Ends.cfg (c:=cS (.error 0)) rfl key
theorem ref_gss {b:Bs} (hb:fits b.length):RCs PP 27 [LB b] [] (ssV (gStrs b)):=by
 unfold gStrs gList
 have hs:short b.length:=by unfold fits at hb; unfold short; omega
 cases hg:gLen b 1 with
 | error e =>
  have he:=gLen_err hg
  exact rcs_of (cL_ok (.error e)) (by kernel_rfl) (rgg_e_t ⟨isB_bytes b,by rw [bytesL_len]; exact hs,by omega,by rw [unB_bytes]; exact hg,by simp; omega,trivial⟩ rfl)
 | ok p =>
  obtain ⟨n,u⟩:=p
  obtain ⟨h1,h2,h3⟩:=gLen_ok hg
  refine rcs_of (cL_ok (.ok (n,u))) (by kernel_rfl) (rgg_k_ ⟨isB_bytes b,by rw [bytesL_len]; exact hs,by omega,by rw [unB_bytes]; exact hg,trivial⟩ ?_)
  have:=rgg_loop hb n 0 u [] n (by omega) (by omega) (by simp) (by omega)
  have em:moreS [] (gMany gBytes b n u) = gMany gBytes b n u:=by
   cases gMany gBytes b n u with
   | error e=>rfl
   | ok q=>rfl
  rw [em] at this
  exact Ends.cfg (c:=cS (.error 0)) rfl this
end Go.Aev.M44
end
section
namespace Go.Aev.M44
set_option maxRecDepth 1000000
open Go Go.Aev
def fitsL (es:List D):Prop:=fits es.length
noncomputable def tabQ (r:Except Nat (List Int × Nat)) (r':Except Nat (List Bs × Nat)) (g:FuncId) (args:List V) (rows:Aev.Rows):Option (List Prop × V) :=
 match g,args with
 | 79,[v,.d (.int .i64 m),.fn 80 []]=>match listOf rows v with
  | some (ps,es)=>some (ps ++ [m = 1,isB es,fitsL es,gInts (es.map unB) = r],isV r)
  | none=>none
 | 26,[v]=>match listOf rows v with
  | some (ps,es)=>some (ps ++ [isB es,fitsL es,gInts (es.map unB) = r],isV r)
  | none=>none
 | 81,[v,.d (.int .i64 m),.fn 82 []]=>match listOf rows v with
  | some (ps,es)=>some (ps ++ [m = 1,isB es,fitsL es,gStrs (es.map unB) = r'],ssV r')
  | none=>none
 | 27,[v]=>match listOf rows v with
  | some (ps,es)=>some (ps ++ [isB es,fitsL es,gStrs (es.map unB) = r'],ssV r')
  | none=>none
 | _,_=>none
noncomputable def cQ (r:Except Nat (List Int × Nat)) (r':Except Nat (List Bs × Nat)):SCfg:=mk (fun _=>true) (tabQ r r')
theorem argB {rows:Aev.Rows} {v:V} {ps:List Prop} {es:List D} (hl:listOf rows v = some (ps,es)) (hp:AllP ps) (hb:isB es):ArgRel rows v (LB (es.map unB)):=by
 have e:LB (es.map unB) = .d (.list es):=by unfold isB at hb; rw [LB,← hb]
 rw [e]; exact .list hl hp
theorem tabQ_ok {r:Except Nat (List Int × Nat)} {r':Except Nat (List Bs × Nat)} {g:FuncId} {args:List V} {rows:Aev.Rows} {ps:List Prop} {v:V} (h:tabQ r r' g args rows = some (ps,v)) (hp:AllP ps):RCs PP g args rows v:=by
 unfold tabQ at h
 split at h
 ·split at h
  ·rename_i qs es hl
   cases h
   obtain ⟨h1,h2,h3,h4,h5,_⟩:=AllP_append hp
   have:=wire_gts (b:=es.map unB) (by rw [List.length_map]; exact h4)
   rw [h5] at this
   subst h2
   exact this.of_lists (.cons (argB hl h1 h3) (.cons (.data _) (.cons (.fn _) .nil)))
  ·cases h
 ·split at h
  ·rename_i qs es hl
   cases h
   obtain ⟨h1,h3,h4,h5,_⟩:=AllP_append hp
   have:=ref_gts (b:=es.map unB) (by rw [List.length_map]; exact h4)
   rw [h5] at this
   exact this.of_lists (.cons (argB hl h1 h3) .nil)
  ·cases h
 ·split at h
  ·rename_i qs es hl
   cases h
   obtain ⟨h1,h2,h3,h4,h5,_⟩:=AllP_append hp
   have:=wire_gss (b:=es.map unB) (by rw [List.length_map]; exact h4)
   rw [h5] at this
   subst h2
   exact this.of_lists (.cons (argB hl h1 h3) (.cons (.data _) (.cons (.fn _) .nil)))
  ·cases h
 ·split at h
  ·rename_i qs es hl
   cases h
   obtain ⟨h1,h3,h4,h5,_⟩:=AllP_append hp
   have:=ref_gss (b:=es.map unB) (by rw [List.length_map]; exact h4)
   rw [h5] at this
   exact this.of_lists (.cons (argB hl h1 h3) .nil)
  ·cases h
 ·cases h
theorem cQ_ok (r:Except Nat (List Int × Nat)) (r':Except Nat (List Bs × Nat)):COK (cQ r r').cfg:=mk_ok fun g args rows ps v h hp=>tabQ_ok h hp
end Go.Aev.M44
end
section
set_option maxRecDepth 1000000
set_option linter.unusedVariables false
namespace Go.Aev.M44
open Go Go.Aev
end Go.Aev.M44
namespace Go.Aev.M44
theorem gl22_e {e:Nat} {b:List UInt8} {Q:V→Aev.Rows→Prop} (hp:AllP [(1:Int) = (1:Int),isB (bytesL b),fitsL (bytesL b),gInts (List.map unB (bytesL b)) = Except.error e]) (h:Q (V.tup [V.nil,I 0,I (↑e:Int)]) ([])):Ends (cQ (.error e) (.error 0)) 0 (start (cQ (.error e) (.error 0)) 22 [LB b] []) Q :=
 Ends.toFin (cQ_ok (.error e) (.error 0)) (hints [] [] [] 0 false true) anyLoop 140 (by kernel_rfl) hp h
theorem gl22_n {u:Nat} {b:List UInt8} {Q:V→Aev.Rows→Prop} (hp:AllP [(1:Int) = (1:Int),isB (bytesL b),fitsL (bytesL b),gInts (List.map unB (bytesL b)) = Except.ok ([],u)]) (h:Q (V.tup [V.nil,I (↑u:Int),I 0]) ([])):Ends (cQ (.ok ([],u)) (.error 0)) 0 (start (cQ (.ok ([],u)) (.error 0)) 22 [LB b] []) Q :=
 Ends.toFin (cQ_ok (.ok ([],u)) (.error 0)) (hints [] [] [] 0 false true) anyLoop 140 (by kernel_rfl) hp h
theorem gl22_c {x:Int} {l:List Int} {u:Nat} {b:List UInt8} {Q:V→Aev.Rows→Prop} (hp:AllP [(1:Int) = (1:Int),isB (bytesL b),fitsL (bytesL b),gInts (List.map unB (bytesL b)) = Except.ok (x :: l,u)]) (h:Q (V.tup [L (x :: l),I (↑u:Int),I 0]) ([])):Ends (cQ (.ok (x :: l,u)) (.error 0)) 0 (start (cQ (.ok (x :: l,u)) (.error 0)) 22 [LB b] []) Q :=
 Ends.toFin (cQ_ok (.ok (x :: l,u)) (.error 0)) (hints [] [] [] 0 false true) anyLoop 140 (by kernel_rfl) hp h
theorem gl23_e {e:Nat} {b:List UInt8} {Q:V→Aev.Rows→Prop} (hp:AllP [(1:Int) = (1:Int),isB (bytesL b),fitsL (bytesL b),gStrs (List.map unB (bytesL b)) = Except.error e]) (h:Q (V.tup [V.nil,I 0,I (↑e:Int)]) ([])):Ends (cQ (.error 0) (.error e)) 0 (start (cQ (.error 0) (.error e)) 23 [LB b] []) Q :=
 Ends.toFin (cQ_ok (.error 0) (.error e)) (hints [] [] [] 0 false true) anyLoop 140 (by kernel_rfl) hp h
theorem gl23_n {u:Nat} {b:List UInt8} {Q:V→Aev.Rows→Prop} (hp:AllP [(1:Int) = (1:Int),isB (bytesL b),fitsL (bytesL b),gStrs (List.map unB (bytesL b)) = Except.ok ([],u)]) (h:Q (V.tup [V.nil,I (↑u:Int),I 0]) ([])):Ends (cQ (.error 0) (.ok ([],u))) 0 (start (cQ (.error 0) (.ok ([],u))) 23 [LB b] []) Q :=
 Ends.toFin (cQ_ok (.error 0) (.ok ([],u))) (hints [] [] [] 0 false true) anyLoop 140 (by kernel_rfl) hp h
theorem gl23_c {x:Bs} {l:List Bs} {u:Nat} {b:List UInt8} {Q:V→Aev.Rows→Prop} (hp:AllP [(1:Int) = (1:Int),isB (bytesL b),fitsL (bytesL b),gStrs (List.map unB (bytesL b)) = Except.ok (x :: l,u)]) (h:Q (V.tup [LS (x :: l),I (↑u:Int),I 0]) ([])):Ends (cQ (.error 0) (.ok (x :: l,u))) 0 (start (cQ (.error 0) (.ok (x :: l,u))) 23 [LB b] []) Q :=
 Ends.toFin (cQ_ok (.error 0) (.ok (x :: l,u))) (hints [] [] [] 0 false true) anyLoop 140 (by kernel_rfl) hp h
end Go.Aev.M44
end
section
namespace Go.Aev.M44
set_option maxRecDepth 1000000
open Go Go.Aev
theorem wire_getints {b:Bs} (hb:fits b.length):RCs PP 22 [LB b] [] (isV (gInts b)):=by
 have h2:fitsL (bytesL b):=by unfold fitsL; rw [bytesL_len]; exact hb
 cases hg:gInts b with
 | error e=>exact rcs_of (cQ_ok (.error e) (.error 0)) (by kernel_rfl) (gl22_e ⟨rfl,isB_bytes b,h2,by rw [unB_bytes]; exact hg,trivial⟩ rfl)
 | ok p =>
  obtain ⟨l,u⟩:=p
  cases l with
  | nil=>exact rcs_of (cQ_ok (.ok ([],u)) (.error 0)) (by kernel_rfl) (gl22_n ⟨rfl,isB_bytes b,h2,by rw [unB_bytes]; exact hg,trivial⟩ rfl)
  | cons x l=>exact rcs_of (cQ_ok (.ok (x :: l,u)) (.error 0)) (by kernel_rfl) (gl22_c ⟨rfl,isB_bytes b,h2,by rw [unB_bytes]; exact hg,trivial⟩ rfl)
theorem wire_getstrs {b:Bs} (hb:fits b.length):RCs PP 23 [LB b] [] (ssV (gStrs b)):=by
 have h2:fitsL (bytesL b):=by unfold fitsL; rw [bytesL_len]; exact hb
 cases hg:gStrs b with
 | error e=>exact rcs_of (cQ_ok (.error 0) (.error e)) (by kernel_rfl) (gl23_e ⟨rfl,isB_bytes b,h2,by rw [unB_bytes]; exact hg,trivial⟩ rfl)
 | ok p =>
  obtain ⟨l,u⟩:=p
  cases l with
  | nil=>exact rcs_of (cQ_ok (.error 0) (.ok ([],u))) (by kernel_rfl) (gl23_n ⟨rfl,isB_bytes b,h2,by rw [unB_bytes]; exact hg,trivial⟩ rfl)
  | cons x l=>exact rcs_of (cQ_ok (.error 0) (.ok (x :: l,u))) (by kernel_rfl) (gl23_c ⟨rfl,isB_bytes b,h2,by rw [unB_bytes]; exact hg,trivial⟩ rfl)
end Go.Aev.M44
end
section
set_option maxRecDepth 1000000
set_option linter.unusedVariables false
namespace Go.Aev.M44
open Go Go.Aev
abbrev srcR (ns:List Int) (ts:List Bs) (b:Bool):Aev.Rows:=[.live (.box [.d (.list (ints ns)),.d (.list (strs ts)),.d (.bool b)] false)]
end Go.Aev.M44
namespace Go.Aev.M44
theorem tk24_t {ns:List Int} {ts:List Bs} {b:Bool} {n:Int} {Q:V→Aev.Rows→Prop} (hp:AllP [decide (n < (0:Int)) = true,decide (n < (0:Int)) = true,decide (n < (0:Int)) = true,decide (n < (0:Int)) = true,decide (n < (0:Int)) = true,decide (n < (0:Int)) = true,decide (n < (0:Int)) = true]) (h:Q (V.tup [V.nil,V.d (D.bool false)]) ([Slot.live (Row.box [V.d (D.list (ints ns)),V.d (D.list (strs ts)),V.d (D.bool b)] false)])):Ends c0 1 (start c0 24 [.pt 0 0 0 0,I n] (srcR ns ts b)) Q :=
 Ends.toFin c0_ok (hints [(9,true)] [] [] 0 false true) anyLoop 140 (by kernel_rfl) hp h
theorem tk24_ft {ns:List Int} {ts:List Bs} {b:Bool} {n:Int} {Q:V→Aev.Rows→Prop} (hp:AllP [decide (n < (0:Int)) = false,decide (n < (0:Int)) = false,decide (n < (0:Int)) = false,decide (n < (0:Int)) = false,decide (n < (0:Int)) = false,decide (n < (0:Int)) = false,decide (n < (0:Int)) = false,decide (n > (↑(List.length (ints ns)):Int)) = true]) (h:Q (V.tup [V.nil,V.d (D.bool false)]) ([Slot.live (Row.box [V.d (D.list (ints ns)),V.d (D.list (strs ts)),V.d (D.bool b)] false)])):Ends c0 1 (start c0 24 [.pt 0 0 0 0,I n] (srcR ns ts b)) Q :=
 Ends.toFin c0_ok (hints [(9,false),(16,true)] [] [] 0 false true) anyLoop 140 (by kernel_rfl) hp h
theorem tk24_ff {ns:List Int} {ts:List Bs} {b:Bool} {n:Int} {Q:V→Aev.Rows→Prop} (hp:AllP [decide (n < (0:Int)) = false,decide (n < (0:Int)) = false,decide (n < (0:Int)) = false,decide (n < (0:Int)) = false,decide (n < (0:Int)) = false,decide (n < (0:Int)) = false,decide (n < (0:Int)) = false,decide (n > (↑(List.length (ints ns)):Int)) = false,(0:Int) ≤ n,0 ≤ Int.toNat n∧Int.toNat n ≤ List.length (ints ns),(List.all (ints ns) fun e=>List.length (D.cells e) == 1) = true,(List.all (List.take (Int.toNat n - 0) (List.drop (0) (ints ns))) fun e=>List.length (D.cells e) == 1) = true,0 < 1∧List.length (List.take (Int.toNat n - 0) (List.drop (0) (ints ns))) ≠ 0∧1 = 1∧1 = 1∧0 ≤ 0∧¬0 + List.length (List.take (Int.toNat n - 0) (List.drop (0) (ints ns))) ≤ 0∧2 * (0 + List.length (List.take (Int.toNat n - 0) (List.drop (0) (ints ns)))) * 8 ≤ 281474976710656∧0 + List.length (List.take (Int.toNat n - 0) (List.drop (0) (ints ns))) ≤ 4611686018427387904,(0:Int) ≤ n,Int.toNat n ≤ List.length (ints ns)∧List.length (ints ns) ≤ List.length (ints ns),(List.all (ints ns) fun e=>List.length (D.cells e) == 1) = true]) (h:Q (V.tup [V.sl (2) (1) (0) (0 + List.length (List.take (Int.toNat n - 0) (List.drop (0) (ints ns)))) (0 + List.length (List.take (Int.toNat n - 0) (List.drop (0) (ints ns)))) false,V.d (D.bool true)]) ([Slot.live (Row.box [V.d (D.list (List.take (List.length (ints ns) - Int.toNat n) (List.drop (Int.toNat n) (ints ns)))),V.d (D.list (strs ts)),V.d (D.bool b)] false),Slot.live (Row.dat (1) [] false),Slot.live (Row.dat (1) ([] ++ List.take (Int.toNat n - 0) (List.drop (0) (ints ns))) false)])):Ends c0 1 (start c0 24 [.pt 0 0 0 0,I n] (srcR ns ts b)) Q :=
 Ends.toFin c0_ok (hints [(9,false),(16,false)] [] [] 1 false true) anyLoop 140 (by kernel_rfl) hp h
theorem tk83_t {ns:List Int} {ts:List Bs} {b:Bool} {n:Int} {Q:V→Aev.Rows→Prop} (hp:AllP [decide (n < (0:Int)) = true,decide (n < (0:Int)) = true,decide (n < (0:Int)) = true,decide (n < (0:Int)) = true,decide (n < (0:Int)) = true,decide (n < (0:Int)) = true,decide (n < (0:Int)) = true]) (h:Q (V.tup [V.nil,V.d (D.bool false)]) ([Slot.live (Row.box [V.d (D.list (ints ns)),V.d (D.list (strs ts)),V.d (D.bool b)] false)])):Ends c0 1 (start c0 83 [.pt 0 0 0 1,I n] (srcR ns ts b)) Q :=
 Ends.toFin c0_ok (hints [(9,true)] [] [] 0 false true) anyLoop 140 (by kernel_rfl) hp h
theorem tk83_ft {ns:List Int} {ts:List Bs} {b:Bool} {n:Int} {Q:V→Aev.Rows→Prop} (hp:AllP [decide (n < (0:Int)) = false,decide (n < (0:Int)) = false,decide (n < (0:Int)) = false,decide (n < (0:Int)) = false,decide (n < (0:Int)) = false,decide (n < (0:Int)) = false,decide (n < (0:Int)) = false,decide (n > (↑(List.length (strs ts)):Int)) = true]) (h:Q (V.tup [V.nil,V.d (D.bool false)]) ([Slot.live (Row.box [V.d (D.list (ints ns)),V.d (D.list (strs ts)),V.d (D.bool b)] false)])):Ends c0 1 (start c0 83 [.pt 0 0 0 1,I n] (srcR ns ts b)) Q :=
 Ends.toFin c0_ok (hints [(9,false),(16,true)] [] [] 0 false true) anyLoop 140 (by kernel_rfl) hp h
theorem tk83_ff {ns:List Int} {ts:List Bs} {b:Bool} {n:Int} {Q:V→Aev.Rows→Prop} (hp:AllP [decide (n < (0:Int)) = false,decide (n < (0:Int)) = false,decide (n < (0:Int)) = false,decide (n < (0:Int)) = false,decide (n < (0:Int)) = false,decide (n < (0:Int)) = false,decide (n < (0:Int)) = false,decide (n > (↑(List.length (strs ts)):Int)) = false,(0:Int) ≤ n,0 ≤ Int.toNat n∧Int.toNat n ≤ List.length (strs ts),(List.all (strs ts) fun e=>List.length (D.cells e) == 1) = true,(List.all (List.take (Int.toNat n - 0) (List.drop (0) (strs ts))) fun e=>List.length (D.cells e) == 1) = true,0 < 1∧List.length (List.take (Int.toNat n - 0) (List.drop (0) (strs ts))) ≠ 0∧1 = 1∧1 = 1∧0 ≤ 0∧¬0 + List.length (List.take (Int.toNat n - 0) (List.drop (0) (strs ts))) ≤ 0∧2 * (0 + List.length (List.take (Int.toNat n - 0) (List.drop (0) (strs ts)))) * 16 ≤ 281474976710656∧0 + List.length (List.take (Int.toNat n - 0) (List.drop (0) (strs ts))) ≤ 4611686018427387904,(0:Int) ≤ n,Int.toNat n ≤ List.length (strs ts)∧List.length (strs ts) ≤ List.length (strs ts),(List.all (strs ts) fun e=>List.length (D.cells e) == 1) = true]) (h:Q (V.tup [V.sl (2) (1) (0) (0 + List.length (List.take (Int.toNat n - 0) (List.drop (0) (strs ts)))) (0 + List.length (List.take (Int.toNat n - 0) (List.drop (0) (strs ts)))) false,V.d (D.bool true)]) ([Slot.live (Row.box [V.d (D.list (ints ns)),V.d (D.list (List.take (List.length (strs ts) - Int.toNat n) (List.drop (Int.toNat n) (strs ts)))),V.d (D.bool b)] false),Slot.live (Row.dat (1) [] false),Slot.live (Row.dat (1) ([] ++ List.take (Int.toNat n - 0) (List.drop (0) (strs ts))) false)])):Ends c0 1 (start c0 83 [.pt 0 0 0 1,I n] (srcR ns ts b)) Q :=
 Ends.toFin c0_ok (hints [(9,false),(16,false)] [] [] 1 false true) anyLoop 140 (by kernel_rfl) hp h
theorem tk24_0 {ns:List Int} {ts:List Bs} {b:Bool} {Q:V→Aev.Rows→Prop} (hp:AllP [false = false,(0:Int) ≤ (0:Int),0 ≤ 0∧0 ≤ List.length (ints ns),(List.all (ints ns) fun e=>List.length (D.cells e) == 1) = true,true = true,0 < 1∧0 = 0,(0:Int) ≤ (0:Int),0 ≤ List.length (ints ns)∧List.length (ints ns) ≤ List.length (ints ns),(List.all (ints ns) fun e=>List.length (D.cells e) == 1) = true]) (h:Q (V.tup [V.sl (1) (1) (0) (0) (0) true,V.d (D.bool true)]) ([Slot.live (Row.box [V.d (D.list (List.take (List.length (ints ns) - 0) (List.drop (0) (ints ns)))),V.d (D.list (strs ts)),V.d (D.bool b)] false),Slot.live (Row.dat (1) [] false)])):Ends c0 1 (start c0 24 [.pt 0 0 0 0,I 0] (srcR ns ts b)) Q :=
 Ends.toFin c0_ok (hints [(16,false)] [] [] 3 false true) anyLoop 140 (by kernel_rfl) hp h
end Go.Aev.M44
end
section
namespace Go.Aev.M44
set_option maxRecDepth 1000000
open Go Go.Aev
theorem wcn_take {y:Aev.Rows} {r len c:Nat} {es a t:List D} {b ex ro:Bool} (h0:liveAt y 0 = some (.box [.d (.list a),.d (.list t),.d (.bool b)] false)) (hr:liveAt y r = some (.dat 1 es ro)) (h1:1 ≤ r) (hl:len = es.length) :
  wcNorm (liveAt y) 1 (.tup [.sl r 1 0 len c ex,B true]) = some (.tup [.d (.list es),B true],[.live (.box [.d (.list a),.d (.list t),.d (.bool b)] false)]):=by
 have hn:¬ r < 1:=by omega
 have:cvN (liveAt y) 1 (.tup [.sl r 1 0 len c ex,B true]) = (.tup [.d (.list es),B true],[(r,.live (.dat 1 es true))]):=by
  unfold cvN convN
  simp only [toDs,toD1,if_neg hn,hr,hl,true_and,Nat.zero_add,Nat.le_refl,if_true,List.drop_zero,List.take_length,List.map]
  rfl
 unfold wcNorm
 rw [this]
 show (if _ then match mapO _ [0],_ with | some (rows0:Aev.Rows),some (v0:V)=>some (v0,rows0) | _,_=>none else none) = _
 simp only [mapO,h0]
 rfl
theorem wcn_nil {y:Aev.Rows} {a t:List D} {b:Bool} (h0:liveAt y 0 = some (.box [.d (.list a),.d (.list t),.d (.bool b)] false)) :
  wcNorm (liveAt y) 1 (.tup [.nil,B false]) = some (.tup [.d (.list []),B false],[.live (.box [.d (.list a),.d (.list t),.d (.bool b)] false)]):=by
 unfold wcNorm
 show (if _ then match mapO _ [0],_ with | some (rows0:Aev.Rows),some (v0:V)=>some (v0,rows0) | _,_=>none else none) = _
 simp only [mapO,h0]
 rfl
theorem ints_all1 (l:List Int):((ints l).all fun e=>List.length (D.cells e) == 1) = true:=by simp [ints,D.cells]
theorem strs_all1 (l:List Bs):((strs l).all fun e=>List.length (D.cells e) == 1) = true:=by simp [strs,strD,D.cells]
theorem ints_tk (l:List Int) (n:Nat):(ints l).take n = ints (l.take n):=by simp [ints,List.map_take]
theorem ints_dr (l:List Int) (n:Nat):(ints l).drop n = ints (l.drop n):=by simp [ints,List.map_drop]
theorem strs_tk (l:List Bs) (n:Nat):(strs l).take n = strs (l.take n):=by simp [strs,List.map_take]
theorem strs_dr (l:List Bs) (n:Nat):(strs l).drop n = strs (l.drop n):=by simp [strs,List.map_drop]
theorem takeI_do {ns:List Int} {ts:List Bs} {b:Bool} {n:Int} (h0:0 ≤ n) (h1:n ≤ ns.length) (hs:fits ns.length) :
  Does PP 24 1 [.pt 0 0 0 0,I n] (srcR ns ts b) (fun x y=>x = .tup [L (ns.take n.toNat),B true]∧y = srcR (ns.drop n.toNat) ts b):=by
 unfold fits at hs
 obtain ⟨k,rfl⟩:∃ k:Nat,n = (k:Int):=⟨n.toNat,by omega⟩
 rw [Int.toNat_natCast]
 refine Does.norm (rows:=srcR ns ts b) (does_of (k:=1) (R:=fun x y=>wcNorm (liveAt y) 1 x = some (.tup [L (ns.take k),B true],srcR (ns.drop k) ts b)) c0_ok (by kernel_rfl) ?_) (fun x y h=>h)
 have e2:List.take ((ints ns).length - k) (List.drop k (ints ns)) = ints (ns.drop k):=by
  rw [← ints_dr,← List.length_drop,List.take_length]
 cases k with
 | zero =>
  refine tk24_0 ⟨rfl,by omega,⟨by omega,by omega⟩,ints_all1 _,rfl,⟨by omega,rfl⟩,by omega,⟨by omega,by omega⟩,ints_all1 _,trivial⟩ ?_
  rw [e2]
  exact wcn_take rfl rfl (by omega) rfl
 | succ j =>
  have hne:¬ (((j + 1:Nat):Int) < 0):=by omega
  have e1:List.take (Int.toNat ((j + 1:Nat):Int) - 0) (List.drop 0 (ints ns)) = ints (ns.take (j + 1)):=by
   rw [List.drop_zero,Nat.sub_zero,Int.toNat_natCast,ints_tk]
  have hlen:(ints (ns.take (j + 1))).length = j + 1:=by rw [ints_len,List.length_take]; omega
  refine tk24_ff ⟨decide_eq_false hne,decide_eq_false hne,decide_eq_false hne,decide_eq_false hne,decide_eq_false hne,decide_eq_false hne,decide_eq_false hne,decide_eq_false (by rw [ints_len]; omega),by omega,⟨by omega,by rw [ints_len]; omega⟩,ints_all1 _,
   by rw [e1]; exact ints_all1 _,by rw [e1,hlen]; refine ⟨by omega,by omega,rfl,rfl,by omega,by omega,by omega,by omega⟩,by omega,⟨by rw [ints_len]; omega,by omega⟩,ints_all1 _,trivial⟩ ?_
  rw [e1,Int.toNat_natCast,e2]
  exact wcn_take rfl rfl (by omega) (by simp)
theorem takeS_do {ns:List Int} {ts:List Bs} {b:Bool} {n:Int} (h0:0 < n) (h1:n ≤ ts.length) (hs:fits ts.length) :
  Does PP 83 1 [.pt 0 0 0 1,I n] (srcR ns ts b) (fun x y=>x = .tup [.d (.list (strs (ts.take n.toNat))),B true]∧y = srcR ns (ts.drop n.toNat) b):=by
 unfold fits at hs
 obtain ⟨k,rfl⟩:∃ k:Nat,n = (k:Int):=⟨n.toNat,by omega⟩
 rw [Int.toNat_natCast]
 refine Does.norm (rows:=srcR ns ts b) (does_of (k:=1) (R:=fun x y=>wcNorm (liveAt y) 1 x = some (.tup [.d (.list (strs (ts.take k))),B true],srcR ns (ts.drop k) b)) c0_ok (by kernel_rfl) ?_) (fun x y h=>h)
 have e2:List.take ((strs ts).length - k) (List.drop k (strs ts)) = strs (ts.drop k):=by
  rw [← strs_dr,← List.length_drop,List.take_length]
 cases k with
 | zero=>omega
 | succ j =>
  have hne:¬ (((j + 1:Nat):Int) < 0):=by omega
  have e1:List.take (Int.toNat ((j + 1:Nat):Int) - 0) (List.drop 0 (strs ts)) = strs (ts.take (j + 1)):=by
   rw [List.drop_zero,Nat.sub_zero,Int.toNat_natCast,strs_tk]
  have hlen:(strs (ts.take (j + 1))).length = j + 1:=by rw [strs_len,List.length_take]; omega
  refine tk83_ff ⟨decide_eq_false hne,decide_eq_false hne,decide_eq_false hne,decide_eq_false hne,decide_eq_false hne,decide_eq_false hne,decide_eq_false hne,decide_eq_false (by rw [strs_len]; omega),by omega,⟨by omega,by rw [strs_len]; omega⟩,strs_all1 _,
   by rw [e1]; exact strs_all1 _,by rw [e1,hlen]; refine ⟨by omega,by omega,rfl,rfl,by omega,by omega,by omega,by omega⟩,by omega,⟨by rw [strs_len]; omega,by omega⟩,strs_all1 _,trivial⟩ ?_
  rw [e1,Int.toNat_natCast,e2]
  exact wcn_take rfl rfl (by omega) (by simp)
theorem takeI_no {ns:List Int} {ts:List Bs} {b:Bool} {n:Int} (h:n < 0 ∨ (ns.length:Int) < n) :
  Does PP 24 1 [.pt 0 0 0 0,I n] (srcR ns ts b) (fun x y=>x = .tup [.d (.list []),B false]∧y = srcR ns ts b):=by
 refine Does.norm (rows:=srcR ns ts b) (does_of (k:=1) (R:=fun x y=>wcNorm (liveAt y) 1 x = some (.tup [.d (.list []),B false],srcR ns ts b)) c0_ok (by kernel_rfl) ?_) (fun x y h=>h)
 by_cases h0:n < 0
 ·exact tk24_t ⟨decide_eq_true h0,decide_eq_true h0,decide_eq_true h0,decide_eq_true h0,decide_eq_true h0,decide_eq_true h0,decide_eq_true h0,trivial⟩ (wcn_nil rfl)
 ·exact tk24_ft ⟨decide_eq_false h0,decide_eq_false h0,decide_eq_false h0,decide_eq_false h0,decide_eq_false h0,decide_eq_false h0,decide_eq_false h0,decide_eq_true (by rw [ints_len]; omega),trivial⟩ (wcn_nil rfl)
theorem takeS_no {ns:List Int} {ts:List Bs} {b:Bool} {n:Int} (h:n < 0 ∨ (ts.length:Int) < n) :
  Does PP 83 1 [.pt 0 0 0 1,I n] (srcR ns ts b) (fun x y=>x = .tup [.d (.list []),B false]∧y = srcR ns ts b):=by
 refine Does.norm (rows:=srcR ns ts b) (does_of (k:=1) (R:=fun x y=>wcNorm (liveAt y) 1 x = some (.tup [.d (.list []),B false],srcR ns ts b)) c0_ok (by kernel_rfl) ?_) (fun x y h=>h)
 by_cases h0:n < 0
 ·exact tk83_t ⟨decide_eq_true h0,decide_eq_true h0,decide_eq_true h0,decide_eq_true h0,decide_eq_true h0,decide_eq_true h0,decide_eq_true h0,trivial⟩ (wcn_nil rfl)
 ·exact tk83_ft ⟨decide_eq_false h0,decide_eq_false h0,decide_eq_false h0,decide_eq_false h0,decide_eq_false h0,decide_eq_false h0,decide_eq_false h0,decide_eq_true (by rw [strs_len]; omega),trivial⟩ (wcn_nil rfl)
end Go.Aev.M44
end
section
namespace Go.Aev.M44
set_option maxRecDepth 1000000
open Go Go.Aev
def zeroP:Pr:=.mk 0 [] 0 0 [] []
mutual
def wh:Nat→List Int→List Bs→Bool→Pr × List Int × List Bs × Bool
 | 0,ns,ts,_=>(zeroP,ns,ts,true)
 | f + 1,ns,ts,b=>match (if 4 ≤ ns.length then ns.drop 4 else ns),(if 2 ≤ ts.length then ts.drop 2 else ts),ns.take 4,ts.take 2 with
  | ns1,ts1,[o,n,m,c],[nm,s]=>if b = true ∨ c < 0 ∨ 64 < c then (zeroP,ns1,ts1,true) else
   match whL f c.toNat ns1 ts1 with
   | (l,ns2,ts2,b2)=>(.mk o nm n m s l,ns2,ts2,b2)
  | ns1,ts1,_,_=>(zeroP,ns1,ts1,true)
def whL:Nat→Nat→List Int→List Bs→List Pr × List Int × List Bs × Bool
 | _,0,ns,ts=>([],ns,ts,false)
 | 0,_ + 1,ns,ts=>([],ns,ts,true)
 | f + 1,k + 1,ns,ts=>match wh f ns ts false with
  | (p,ns1,ts1,true)=>([p],ns1,ts1,true)
  | (p,ns1,ts1,false)=>match whL f k ns1 ts1 with
   | (l,ns2,ts2,b)=>(p :: l,ns2,ts2,b)
end
theorem wh_both:∀ (f:Nat),
  (∀ (ns:List Int) (ts:List Bs) (p:Pr) (ns':List Int) (ts':List Bs),wh f ns ts false = (p,ns',ts',false) ↔ pw f ns ts = some (p,ns',ts')) ∧
  (∀ (k:Nat) (ns:List Int) (ts:List Bs) (l:List Pr) (ns':List Int) (ts':List Bs),whL f k ns ts = (l,ns',ts',false) ↔ pwL f k ns ts = some (l,ns',ts')):=by
 intro f
 induction f with
 | zero =>
  refine ⟨fun ns ts p ns' ts'=>by simp [wh,pw],fun k ns ts l ns' ts'=>?_⟩
  cases k with
  | zero=>simp [whL,pwL]
  | succ k=>simp [whL,pwL]
 | succ f ih =>
  obtain ⟨ih1,ih2⟩:=ih
  refine ⟨fun ns ts p ns' ts'=>?_,fun k ns ts l ns' ts'=>?_⟩
  ·match ns,ts with
   | o :: n :: m :: c :: ns,nm :: s :: ts =>
    have e1:¬ (ns.length + 1 + 1 + 1 + 1 < 4):=by omega
    simp only [wh,pw,List.length_cons,show 4 ≤ ns.length + 1 + 1 + 1 + 1 by omega,show 2 ≤ ts.length + 1 + 1 by omega,if_true,List.drop_succ_cons,List.drop_zero,List.take_succ_cons,List.take_zero,Bool.false_eq_true,false_or]
    by_cases hc:c < 0 ∨ 64 < c
    ·rw [if_pos hc,if_pos hc]; simp
    ·rw [if_neg hc,if_neg hc]
     have h:=ih2 c.toNat ns ts
     cases hw:whL f c.toNat ns ts with
     | mk l q =>
      obtain ⟨ns2,ts2,b⟩:=q
      cases b with
      | false =>
       rw [(h l ns2 ts2).1 hw]
       simp
      | true =>
       cases hp:pwL f c.toNat ns ts with
       | none=>simp
       | some r =>
        obtain ⟨l',ns3,ts3⟩:=r
        have:=(h l' ns3 ts3).2 hp
        rw [hw] at this
        simp at this
   | [],ts=>simp [wh,pw]
   | [_],ts=>simp [wh,pw]
   | [_,_],ts=>simp [wh,pw]
   | [_,_,_],ts=>simp [wh,pw]
   | _ :: _ :: _ :: _ :: _,[]=>simp [wh,pw]
   | _ :: _ :: _ :: _ :: _,[_]=>simp [wh,pw]
  ·cases k with
   | zero=>simp [whL,pwL]
   | succ k =>
    simp only [whL,pwL]
    cases hw:wh f ns ts false with
    | mk p q =>
     obtain ⟨ns1,ts1,b⟩:=q
     cases b with
     | true =>
      cases hp:pw f ns ts with
      | none=>simp
      | some r =>
       obtain ⟨p',ns3,ts3⟩:=r
       have:=(ih1 ns ts p' ns3 ts3).2 hp
       rw [hw] at this
       simp at this
     | false =>
      rw [(ih1 ns ts p ns1 ts1).1 hw]
      simp only
      cases hl:whL f k ns1 ts1 with
      | mk l q =>
       obtain ⟨ns2,ts2,b2⟩:=q
       cases b2 with
       | false =>
        rw [(ih2 k ns1 ts1 l ns2 ts2).1 hl]
        simp
       | true =>
        cases hp:pwL f k ns1 ts1 with
        | none=>simp
        | some r =>
         obtain ⟨l',ns3,ts3⟩:=r
         have:=(ih2 k ns1 ts1 l' ns3 ts3).2 hp
         rw [hl] at this
         simp at this
theorem wh_len:∀ (f:Nat),
  (∀ (ns:List Int) (ts:List Bs) (b:Bool),(wh f ns ts b).2.1.length ≤ ns.length∧(wh f ns ts b).2.2.1.length ≤ ts.length) ∧
  (∀ (k:Nat) (ns:List Int) (ts:List Bs),(whL f k ns ts).2.1.length ≤ ns.length∧(whL f k ns ts).2.2.1.length ≤ ts.length):=by
 intro f
 induction f with
 | zero =>
  refine ⟨fun ns ts b=>by simp [wh],fun k ns ts=>?_⟩
  cases k <;> simp [whL]
 | succ f ih =>
  obtain ⟨ih1,ih2⟩:=ih
  refine ⟨fun ns ts b=>?_,fun k ns ts=>?_⟩
  ·have h1:(if 4 ≤ ns.length then ns.drop 4 else ns).length ≤ ns.length:=by split <;> simp
   have h2:(if 2 ≤ ts.length then ts.drop 2 else ts).length ≤ ts.length:=by split <;> simp
   simp only [wh]
   split
   ·rename_i ns1 ts1 o n m c nm s e1 e2
    split
    ·exact ⟨h1,h2⟩
    ·have:=ih2 c.toNat (if 4 ≤ ns.length then ns.drop 4 else ns) (if 2 ≤ ts.length then ts.drop 2 else ts)
     exact ⟨Nat.le_trans this.1 h1,Nat.le_trans this.2 h2⟩
   ·exact ⟨h1,h2⟩
  ·cases k with
   | zero=>simp [whL]
   | succ k =>
    simp only [whL]
    have h1:=ih1 ns ts false
    cases hw:wh f ns ts false with
    | mk p q =>
     obtain ⟨ns1,ts1,b⟩:=q
     rw [hw] at h1
     cases b with
     | true=>exact h1
     | false =>
      have:=ih2 k ns1 ts1
      exact ⟨Nat.le_trans this.1 h1.1,Nat.le_trans this.2 h1.2⟩
end Go.Aev.M44
end
section
namespace Go.Aev.M44
set_option maxRecDepth 1000000
open Go Go.Aev
def unI:D→Int | .int _ n=>n | _=>0
def unS:D→Bs | .str s=>s.data.toList | _=>[]
def isI (es:List D):Prop:=es = ints (es.map unI)
def isS (es:List D):Prop:=es = strs (es.map unS)
theorem unI_ints (l:List Int):(ints l).map unI = l:=by simp [ints,unI,Function.comp_def]
theorem unS_strs (l:List Bs):(strs l).map unS = l:=by simp [strs,strD,unS,Function.comp_def]
theorem isI_ints (l:List Int):isI (ints l):=by unfold isI; rw [unI_ints]
theorem isS_strs (l:List Bs):isS (strs l):=by unfold isS; rw [unS_strs]
mutual
def prD:Pr→D
 | .mk o nm n m s l=>.agg [.int .i64 o,strD nm,.int .i64 n,.int .i64 m,strD s,.list (prDs l)]
def prDs:List Pr→List D
 | []=>[]
 | p :: l=>prD p :: prDs l
end
def prC (p:Pr):D:=.agg [.int .i64 p.op,strD p.name,.int .i64 p.n,.int .i64 p.m,strD p.s,.list (prDs p.subs)]
theorem prC_eq (p:Pr):prC p = prD p:=by cases p; rfl
def boxW (a t:List D) (b:Bool):Aev.Rows:=[.live (.box [.d (.list a),.d (.list t),.d (.bool b)] false)]
def tabW (f:Nat) (k1:Option (List Int × List Int)) (k2:Option (List Bs × List Bs)) (r:Pr × List Int × List Bs × Bool) (g:FuncId) (args:List V) (rows:Aev.Rows):Option (List Prop × V × Aev.Rows) :=
 match g,args,rows with
 | 24,[.pt 0 0 0 0,.d (.int .i64 n)],[.live (.box [.d (.list a),.d (.list t),.d (.bool b)] false)]=>match k1 with
  | some (x,y)=>some ([isI a,isS t,0 ≤ n,n ≤ (a.length:Int),fits a.length,(a.map unI).take n.toNat = x,(a.map unI).drop n.toNat = y],.tup [.d (.list (ints x)),.d (.bool true)],boxW (ints y) t b)
  | none=>some ([isI a,isS t,n < 0 ∨ (a.length:Int) < n],.tup [.d (.list []),.d (.bool false)],boxW a t b)
 | 83,[.pt 0 0 0 1,.d (.int .i64 n)],[.live (.box [.d (.list a),.d (.list t),.d (.bool b)] false)]=>match k2 with
  | some (x,y)=>some ([isI a,isS t,0 < n,n ≤ (t.length:Int),fits t.length,(t.map unS).take n.toNat = x,(t.map unS).drop n.toNat = y],.tup [.d (.list (strs x)),.d (.bool true)],boxW a (strs y) b)
  | none=>some ([isI a,isS t,n < 0 ∨ (t.length:Int) < n],.tup [.d (.list []),.d (.bool false)],boxW a t b)
 | 25,[.pt 0 0 0 0],[.live (.box [.d (.list a),.d (.list t),.d (.bool b)] false)] =>
  some ([isI a,isS t,a.length < 2 * f,fits a.length,fits t.length,wh f (a.map unI) (t.map unS) b = r],.d (prC r.1),boxW (ints r.2.1) (strs r.2.2.1) r.2.2.2)
 | _,_,_=>none
noncomputable def cWh (f:Nat) (k1:Option (List Int × List Int)) (k2:Option (List Bs × List Bs)) (r:Pr × List Int × List Bs × Bool):SCfg:=mkW PP (fun _=>true) (fun _ _ _=>none) (tabW f k1 k2 r)
def WhOK (f:Nat):Prop:=∀ (ns:List Int) (ts:List Bs) (b:Bool),ns.length < 2 * f→fits ns.length→fits ts.length →
 Does PP 25 1 [.pt 0 0 0 0] (srcR ns ts b) (fun x y=>x = .d (prC (wh f ns ts b).1)∧y = srcR (wh f ns ts b).2.1 (wh f ns ts b).2.2.1 (wh f ns ts b).2.2.2)
theorem tabW_ok {f:Nat} (hf:WhOK f) {k1:Option (List Int × List Int)} {k2:Option (List Bs × List Bs)} {r:Pr × List Int × List Bs × Bool}:TableW (cWh f k1 k2 r):=by
 intro g args rows ps v rows2 h hp
 change tabW f k1 k2 r g args rows = _ at h
 unfold tabW at h
 split at h
 ·rename_i n a t b
  split at h
  ·rename_i x y
   cases h
   obtain ⟨h1,h2,h3,h4,h5,h6,h7,_⟩:=hp
   unfold isI at h1; unfold isS at h2
   have:=takeI_do (b:=b) (ns:=a.map unI) (ts:=t.map unS) h3 (by rw [List.length_map]; exact h4) (by rw [List.length_map]; exact h5)
   rw [h6,h7] at this; simp only [srcR] at this; rw [← h1,← h2] at this
   exact this
  ·cases h
   obtain ⟨h1,h2,h3,_⟩:=hp
   unfold isI at h1; unfold isS at h2
   have:=takeI_no (b:=b) (ns:=a.map unI) (ts:=t.map unS) (n:=n) (by rw [List.length_map]; exact h3)
   simp only [srcR] at this; rw [← h1,← h2] at this
   exact this
 ·rename_i n a t b
  split at h
  ·rename_i x y
   cases h
   obtain ⟨h1,h2,h3,h4,h5,h6,h7,_⟩:=hp
   unfold isI at h1; unfold isS at h2
   have:=takeS_do (b:=b) (ns:=a.map unI) (ts:=t.map unS) h3 (by rw [List.length_map]; exact h4) (by rw [List.length_map]; exact h5)
   rw [h6,h7] at this; simp only [srcR] at this; rw [← h1,← h2] at this
   exact this
  ·cases h
   obtain ⟨h1,h2,h3,_⟩:=hp
   unfold isI at h1; unfold isS at h2
   have:=takeS_no (b:=b) (ns:=a.map unI) (ts:=t.map unS) (n:=n) (by rw [List.length_map]; exact h3)
   simp only [srcR] at this; rw [← h1,← h2] at this
   exact this
 ·rename_i a t b
  cases h
  obtain ⟨h1,h2,h3,h4,h5,h6,_⟩:=hp
  unfold isI at h1; unfold isS at h2
  have:=hf (a.map unI) (t.map unS) b (by rw [List.length_map]; exact h3) (by rw [List.length_map]; exact h4) (by rw [List.length_map]; exact h5)
  rw [h6] at this; simp only [srcR] at this; rw [← h1,← h2] at this
  exact this
 ·cases h
theorem cWh_ok {f:Nat} (hf:WhOK f) (k1:Option (List Int × List Int)) (k2:Option (List Bs × List Bs)) (r:Pr × List Int × List Bs × Bool):COK (cWh f k1 k2 r).cfg :=
 mkW_ok names mixed (fun g args rows ps v h=>by cases h) (tabW_ok hf)
end Go.Aev.M44
end
section
set_option maxRecDepth 1000000
set_option linter.unusedVariables false
namespace Go.Aev.M44
open Go Go.Aev
noncomputable def td25:List AItem:=(nextOf (sTo (cWh 0 (some ([0,0,0,0],[])) (some ([[],[]],[])) (zeroP,[],[],false)) (hints [(27,false),(41,false),(52,false)]) anyLoop 300 (start (cWh 0 (some ([0,0,0,0],[])) (some ([[],[]],[])) (zeroP,[],[],false)) 25 [.pt 0 0 0 0] (srcR [] [] false)))).fr.todo
noncomputable def H25a (y:List Int) (z:List Bs) (b:Bool) (o n m:Int) (nm u:Bs) (c k:Int):AS:=hd 25 td25 88 [(0,.pt 0 0 0 0),(2,.pt 1 0 0 0),(7,.pt 2 0 0 0),(72,I c),(73,I k)]
 [.live (.box [.d (.list (ints y)),.d (.list (strs z)),.d (.bool b)] false),.live (.box [I 0,.d (strD []),I 0,I 0,.d (strD []),.nil] false),.live (.box [I o,.d (strD nm),I n,I m,.d (strD u),.nil] false)]
noncomputable def H25b (y:List Int) (z:List Bs) (b:Bool) (o n m:Int) (nm u:Bs) (es:List D) (c k:Int):AS:=hd 25 td25 88 [(0,.pt 0 0 0 0),(2,.pt 1 0 0 0),(7,.pt 2 0 0 0),(72,I c),(73,I k)]
 [.live (.box [.d (.list (ints y)),.d (.list (strs z)),.d (.bool b)] false),.live (.box [I 0,.d (strD []),I 0,I 0,.d (strD []),.nil] false),.live (.box [I o,.d (strD nm),I n,I m,.d (strD u),.sl 3 6 0 es.length es.length false] false),.live (.dat 6 es false)]
end Go.Aev.M44
namespace Go.Aev.M44
theorem wh_at {f:Nat} (hf:WhOK f) {ns:List Int} {ts:List Bs} {b:Bool} {r:Pr × List Int × List Bs × Bool} {Q:V→Aev.Rows→Prop} (hp:AllP [isI (ints ns),isS (strs ts),(4:Int) < (0:Int) ∨ (↑(List.length (ints ns)):Int) < (4:Int),isI (ints ns),isS (strs ts),(2:Int) < (0:Int) ∨ (↑(List.length (strs ts)):Int) < (2:Int),b = true,b = true,b = true]) (h:Q (V.agg [I 0,V.d (D.str { data:={ toList:=[] } }),I 0,I 0,V.d (D.str { data:={ toList:=[] } }),V.nil]) ([Slot.live (Row.box [V.d (D.list (ints ns)),V.d (D.list (strs ts)),V.d (D.bool true)] false),Slot.live (Row.box [I 0,V.d (D.str { data:={ toList:=[] } }),I 0,I 0,V.d (D.str { data:={ toList:=[] } }),V.nil] false)])):Ends (cWh f none none r) 1 (start (cWh f none none r) 25 [.pt 0 0 0 0] (srcR ns ts b)) Q :=
 Ends.toFin (cWh_ok hf none none r) (hints [(27,true)] [] [] 0 false true) anyLoop 140 (by kernel_rfl) hp h
theorem wh_af {f:Nat} (hf:WhOK f) {ns:List Int} {ts:List Bs} {b:Bool} {r:Pr × List Int × List Bs × Bool} {Q:V→Aev.Rows→Prop} (hp:AllP [isI (ints ns),isS (strs ts),(4:Int) < (0:Int) ∨ (↑(List.length (ints ns)):Int) < (4:Int),isI (ints ns),isS (strs ts),(2:Int) < (0:Int) ∨ (↑(List.length (strs ts)):Int) < (2:Int),b = false,b = false,b = false]) (h:Q (V.agg [I 0,V.d (D.str { data:={ toList:=[] } }),I 0,I 0,V.d (D.str { data:={ toList:=[] } }),V.nil]) ([Slot.live (Row.box [V.d (D.list (ints ns)),V.d (D.list (strs ts)),V.d (D.bool true)] false),Slot.live (Row.box [I 0,V.d (D.str { data:={ toList:=[] } }),I 0,I 0,V.d (D.str { data:={ toList:=[] } }),V.nil] false)])):Ends (cWh f none none r) 1 (start (cWh f none none r) 25 [.pt 0 0 0 0] (srcR ns ts b)) Q :=
 Ends.toFin (cWh_ok hf none none r) (hints [(27,false)] [] [] 0 false true) anyLoop 140 (by kernel_rfl) hp h
theorem wh_bt {f:Nat} (hf:WhOK f) {ns:List Int} {ts:List Bs} {b:Bool} {x y:List Int} {r:Pr × List Int × List Bs × Bool} {Q:V→Aev.Rows→Prop} (hp:AllP [isI (ints ns),isS (strs ts),(0:Int) ≤ (4:Int),(4:Int) ≤ (↑(List.length (ints ns)):Int),fits (List.length (ints ns)),List.take (4) (List.map M44.unI (ints ns)) = x,List.drop (4) (List.map M44.unI (ints ns)) = y,isI (ints y),isS (strs ts),(2:Int) < (0:Int) ∨ (↑(List.length (strs ts)):Int) < (2:Int),b = true,b = true,b = true]) (h:Q (V.agg [I 0,V.d (D.str { data:={ toList:=[] } }),I 0,I 0,V.d (D.str { data:={ toList:=[] } }),V.nil]) ([Slot.live (Row.box [V.d (D.list (ints y)),V.d (D.list (strs ts)),V.d (D.bool true)] false),Slot.live (Row.box [I 0,V.d (D.str { data:={ toList:=[] } }),I 0,I 0,V.d (D.str { data:={ toList:=[] } }),V.nil] false)])):Ends (cWh f (some (x,y)) none r) 1 (start (cWh f (some (x,y)) none r) 25 [.pt 0 0 0 0] (srcR ns ts b)) Q :=
 Ends.toFin (cWh_ok hf (some (x,y)) none r) (hints [(27,true)] [] [] 0 false true) anyLoop 140 (by kernel_rfl) hp h
theorem wh_bf {f:Nat} (hf:WhOK f) {ns:List Int} {ts:List Bs} {b:Bool} {x y:List Int} {r:Pr × List Int × List Bs × Bool} {Q:V→Aev.Rows→Prop} (hp:AllP [isI (ints ns),isS (strs ts),(0:Int) ≤ (4:Int),(4:Int) ≤ (↑(List.length (ints ns)):Int),fits (List.length (ints ns)),List.take (4) (List.map M44.unI (ints ns)) = x,List.drop (4) (List.map M44.unI (ints ns)) = y,isI (ints y),isS (strs ts),(2:Int) < (0:Int) ∨ (↑(List.length (strs ts)):Int) < (2:Int),b = false,b = false,b = false]) (h:Q (V.agg [I 0,V.d (D.str { data:={ toList:=[] } }),I 0,I 0,V.d (D.str { data:={ toList:=[] } }),V.nil]) ([Slot.live (Row.box [V.d (D.list (ints y)),V.d (D.list (strs ts)),V.d (D.bool true)] false),Slot.live (Row.box [I 0,V.d (D.str { data:={ toList:=[] } }),I 0,I 0,V.d (D.str { data:={ toList:=[] } }),V.nil] false)])):Ends (cWh f (some (x,y)) none r) 1 (start (cWh f (some (x,y)) none r) 25 [.pt 0 0 0 0] (srcR ns ts b)) Q :=
 Ends.toFin (cWh_ok hf (some (x,y)) none r) (hints [(27,false)] [] [] 0 false true) anyLoop 140 (by kernel_rfl) hp h
theorem wh_ct {f:Nat} (hf:WhOK f) {ns:List Int} {ts:List Bs} {b:Bool} {x y:List Bs} {r:Pr × List Int × List Bs × Bool} {Q:V→Aev.Rows→Prop} (hp:AllP [isI (ints ns),isS (strs ts),(4:Int) < (0:Int) ∨ (↑(List.length (ints ns)):Int) < (4:Int),isI (ints ns),isS (strs ts),(0:Int) < (2:Int),(2:Int) ≤ (↑(List.length (strs ts)):Int),fits (List.length (strs ts)),List.take (2) (List.map unS (strs ts)) = x,List.drop (2) (List.map unS (strs ts)) = y,b = true,b = true,b = true]) (h:Q (V.agg [I 0,V.d (D.str { data:={ toList:=[] } }),I 0,I 0,V.d (D.str { data:={ toList:=[] } }),V.nil]) ([Slot.live (Row.box [V.d (D.list (ints ns)),V.d (D.list (strs y)),V.d (D.bool true)] false),Slot.live (Row.box [I 0,V.d (D.str { data:={ toList:=[] } }),I 0,I 0,V.d (D.str { data:={ toList:=[] } }),V.nil] false)])):Ends (cWh f none (some (x,y)) r) 1 (start (cWh f none (some (x,y)) r) 25 [.pt 0 0 0 0] (srcR ns ts b)) Q :=
 Ends.toFin (cWh_ok hf none (some (x,y)) r) (hints [(27,true)] [] [] 0 false true) anyLoop 140 (by kernel_rfl) hp h
theorem wh_cf {f:Nat} (hf:WhOK f) {ns:List Int} {ts:List Bs} {b:Bool} {x y:List Bs} {r:Pr × List Int × List Bs × Bool} {Q:V→Aev.Rows→Prop} (hp:AllP [isI (ints ns),isS (strs ts),(4:Int) < (0:Int) ∨ (↑(List.length (ints ns)):Int) < (4:Int),isI (ints ns),isS (strs ts),(0:Int) < (2:Int),(2:Int) ≤ (↑(List.length (strs ts)):Int),fits (List.length (strs ts)),List.take (2) (List.map unS (strs ts)) = x,List.drop (2) (List.map unS (strs ts)) = y,b = false,b = false,b = false]) (h:Q (V.agg [I 0,V.d (D.str { data:={ toList:=[] } }),I 0,I 0,V.d (D.str { data:={ toList:=[] } }),V.nil]) ([Slot.live (Row.box [V.d (D.list (ints ns)),V.d (D.list (strs y)),V.d (D.bool true)] false),Slot.live (Row.box [I 0,V.d (D.str { data:={ toList:=[] } }),I 0,I 0,V.d (D.str { data:={ toList:=[] } }),V.nil] false)])):Ends (cWh f none (some (x,y)) r) 1 (start (cWh f none (some (x,y)) r) 25 [.pt 0 0 0 0] (srcR ns ts b)) Q :=
 Ends.toFin (cWh_ok hf none (some (x,y)) r) (hints [(27,false)] [] [] 0 false true) anyLoop 140 (by kernel_rfl) hp h
theorem wh_dt {f:Nat} (hf:WhOK f) {ns:List Int} {ts:List Bs} {b:Bool} {o n m c:Int} {y:List Int} {nm u:Bs} {z:List Bs} {r:Pr × List Int × List Bs × Bool} {Q:V→Aev.Rows→Prop} (hp:AllP [isI (ints ns),isS (strs ts),(0:Int) ≤ (4:Int),(4:Int) ≤ (↑(List.length (ints ns)):Int),fits (List.length (ints ns)),List.take (4) (List.map M44.unI (ints ns)) = [o,n,m,c],List.drop (4) (List.map M44.unI (ints ns)) = y,isI (ints y),isS (strs ts),(0:Int) < (2:Int),(2:Int) ≤ (↑(List.length (strs ts)):Int),fits (List.length (strs ts)),List.take (2) (List.map unS (strs ts)) = [nm,u],List.drop (2) (List.map unS (strs ts)) = z,b = true,b = true,b = true]) (h:Q (V.agg [I 0,V.d (D.str { data:={ toList:=[] } }),I 0,I 0,V.d (D.str { data:={ toList:=[] } }),V.nil]) ([Slot.live (Row.box [V.d (D.list (ints y)),V.d (D.list (strs z)),V.d (D.bool true)] false),Slot.live (Row.box [I 0,V.d (D.str { data:={ toList:=[] } }),I 0,I 0,V.d (D.str { data:={ toList:=[] } }),V.nil] false)])):Ends (cWh f (some ([o,n,m,c],y)) (some ([nm,u],z)) r) 1 (start (cWh f (some ([o,n,m,c],y)) (some ([nm,u],z)) r) 25 [.pt 0 0 0 0] (srcR ns ts b)) Q :=
 Ends.toFin (cWh_ok hf (some ([o,n,m,c],y)) (some ([nm,u],z)) r) (hints [(27,true)] [] [] 0 false true) anyLoop 140 (by kernel_rfl) hp h
theorem wh_dft {f:Nat} (hf:WhOK f) {ns:List Int} {ts:List Bs} {b:Bool} {o n m c:Int} {y:List Int} {nm u:Bs} {z:List Bs} {r:Pr × List Int × List Bs × Bool} {Q:V→Aev.Rows→Prop} (hp:AllP [isI (ints ns),isS (strs ts),(0:Int) ≤ (4:Int),(4:Int) ≤ (↑(List.length (ints ns)):Int),fits (List.length (ints ns)),List.take (4) (List.map M44.unI (ints ns)) = [o,n,m,c],List.drop (4) (List.map M44.unI (ints ns)) = y,isI (ints y),isS (strs ts),(0:Int) < (2:Int),(2:Int) ≤ (↑(List.length (strs ts)):Int),fits (List.length (strs ts)),List.take (2) (List.map unS (strs ts)) = [nm,u],List.drop (2) (List.map unS (strs ts)) = z,b = false,b = false,b = false,decide (c < (0:Int)) = true,decide (c < (0:Int)) = true,decide (c < (0:Int)) = true,decide (c < (0:Int)) = true,decide (c < (0:Int)) = true]) (h:Q (V.agg [I 0,V.d (D.str { data:={ toList:=[] } }),I 0,I 0,V.d (D.str { data:={ toList:=[] } }),V.nil]) ([Slot.live (Row.box [V.d (D.list (ints y)),V.d (D.list (strs z)),V.d (D.bool true)] false),Slot.live (Row.box [I 0,V.d (D.str { data:={ toList:=[] } }),I 0,I 0,V.d (D.str { data:={ toList:=[] } }),V.nil] false)])):Ends (cWh f (some ([o,n,m,c],y)) (some ([nm,u],z)) r) 1 (start (cWh f (some ([o,n,m,c],y)) (some ([nm,u],z)) r) 25 [.pt 0 0 0 0] (srcR ns ts b)) Q :=
 Ends.toFin (cWh_ok hf (some ([o,n,m,c],y)) (some ([nm,u],z)) r) (hints [(27,false),(41,true)] [] [] 0 false true) anyLoop 140 (by kernel_rfl) hp h
theorem wh_dfft {f:Nat} (hf:WhOK f) {ns:List Int} {ts:List Bs} {b:Bool} {o n m c:Int} {y:List Int} {nm u:Bs} {z:List Bs} {r:Pr × List Int × List Bs × Bool} {Q:V→Aev.Rows→Prop} (hp:AllP [isI (ints ns),isS (strs ts),(0:Int) ≤ (4:Int),(4:Int) ≤ (↑(List.length (ints ns)):Int),fits (List.length (ints ns)),List.take (4) (List.map M44.unI (ints ns)) = [o,n,m,c],List.drop (4) (List.map M44.unI (ints ns)) = y,isI (ints y),isS (strs ts),(0:Int) < (2:Int),(2:Int) ≤ (↑(List.length (strs ts)):Int),fits (List.length (strs ts)),List.take (2) (List.map unS (strs ts)) = [nm,u],List.drop (2) (List.map unS (strs ts)) = z,b = false,b = false,b = false,decide (c < (0:Int)) = false,decide (c < (0:Int)) = false,decide (c < (0:Int)) = false,decide (c < (0:Int)) = false,decide (c < (0:Int)) = false,decide (c > (64:Int)) = true]) (h:Q (V.agg [I 0,V.d (D.str { data:={ toList:=[] } }),I 0,I 0,V.d (D.str { data:={ toList:=[] } }),V.nil]) ([Slot.live (Row.box [V.d (D.list (ints y)),V.d (D.list (strs z)),V.d (D.bool (decide (c > (64:Int))))] false),Slot.live (Row.box [I 0,V.d (D.str { data:={ toList:=[] } }),I 0,I 0,V.d (D.str { data:={ toList:=[] } }),V.nil] false)])):Ends (cWh f (some ([o,n,m,c],y)) (some ([nm,u],z)) r) 1 (start (cWh f (some ([o,n,m,c],y)) (some ([nm,u],z)) r) 25 [.pt 0 0 0 0] (srcR ns ts b)) Q :=
 Ends.toFin (cWh_ok hf (some ([o,n,m,c],y)) (some ([nm,u],z)) r) (hints [(27,false),(41,false),(52,true)] [] [] 0 false true) anyLoop 140 (by kernel_rfl) hp h
theorem wh_dfff {f:Nat} (hf:WhOK f) {ns:List Int} {ts:List Bs} {b:Bool} {o n m c:Int} {y:List Int} {nm u:Bs} {z:List Bs} {r:Pr × List Int × List Bs × Bool} {Q:V→Aev.Rows→Prop} (hp:AllP [isI (ints ns),isS (strs ts),(0:Int) ≤ (4:Int),(4:Int) ≤ (↑(List.length (ints ns)):Int),fits (List.length (ints ns)),List.take (4) (List.map M44.unI (ints ns)) = [o,n,m,c],List.drop (4) (List.map M44.unI (ints ns)) = y,isI (ints y),isS (strs ts),(0:Int) < (2:Int),(2:Int) ≤ (↑(List.length (strs ts)):Int),fits (List.length (strs ts)),List.take (2) (List.map unS (strs ts)) = [nm,u],List.drop (2) (List.map unS (strs ts)) = z,b = false,b = false,b = false,decide (c < (0:Int)) = false,decide (c < (0:Int)) = false,decide (c < (0:Int)) = false,decide (c < (0:Int)) = false,decide (c < (0:Int)) = false,decide (c > (64:Int)) = false]) (h:Ends (cWh f (some ([o,n,m,c],y)) (some ([nm,u],z)) r) 1 (hd 25 td25 88 [(0,V.pt (0) (0) (0) (0)),(2,V.pt (1) (0) (0) (0)),(7,V.pt (2) (0) (0) (0)),(72,I c),(73,I 0)] [Slot.live (Row.box [V.d (D.list (ints y)),V.d (D.list (strs z)),V.d (D.bool (decide (c > (64:Int))))] false),Slot.live (Row.box [I 0,V.d (D.str { data:={ toList:=[] } }),I 0,I 0,V.d (D.str { data:={ toList:=[] } }),V.nil] false),Slot.live (Row.box [I o,V.d (D.str { data:={ toList:=nm } }),I n,I m,V.d (D.str { data:={ toList:=u } }),V.nil] false)]) Q):Ends (cWh f (some ([o,n,m,c],y)) (some ([nm,u],z)) r) 1 (start (cWh f (some ([o,n,m,c],y)) (some ([nm,u],z)) r) 25 [.pt 0 0 0 0] (srcR ns ts b)) Q :=
  Ends.turn (cWh_ok hf (some ([o,n,m,c],y)) (some ([nm,u],z)) r) (hints [(27,false),(41,false),(52,false)] [] [] 0 false true) anyLoop 140 [0,
 1,
 18] [0,2,7,72,73] (by kernel_rfl) hp h
theorem wl_att {f:Nat} (hf:WhOK f) {y:List Int} {z:List Bs} {b:Bool} {o n m c k:Int} {nm u:Bs} {o1 n1 m1:Int} {nm1 u1:Bs} {l1:List Pr} {y1:List Int} {z1:List Bs} {b1:Bool} {Q:V→Aev.Rows→Prop} (hp:AllP [decide (k < c) = true,b = true]) (h:Q (V.agg [I o,V.d (D.str { data:={ toList:=nm } }),I n,I m,V.d (D.str { data:={ toList:=u } }),V.nil]) ([Slot.live (Row.box [V.d (D.list (ints y)),V.d (D.list (strs z)),V.d (D.bool b)] false),Slot.live (Row.box [I o,V.d (D.str { data:={ toList:=nm } }),I n,I m,V.d (D.str { data:={ toList:=u } }),V.nil] false),Slot.live (Row.box [I o,V.d (D.str { data:={ toList:=nm } }),I n,I m,V.d (D.str { data:={ toList:=u } }),V.nil] false)])):Ends (cWh f none none (.mk o1 nm1 n1 m1 u1 l1,y1,z1,b1)) 1 (H25a y z b o n m nm u c k) Q :=
 Ends.toFin (cWh_ok hf none none (.mk o1 nm1 n1 m1 u1 l1,y1,z1,b1)) (hints [(74,true),(78,true)] [] [] 0 false true) anyLoop 140 (by kernel_rfl) hp h
theorem wl_atf {f:Nat} (hf:WhOK f) {y:List Int} {z:List Bs} {b:Bool} {o n m c k:Int} {nm u:Bs} {o1 n1 m1:Int} {nm1 u1:Bs} {l1:List Pr} {y1:List Int} {z1:List Bs} {b1:Bool} {Q:V→Aev.Rows→Prop} (hp:AllP [decide (k < c) = true,b = false,isI (ints y),isS (strs z),List.length (ints y) < 2 * f,fits (List.length (ints y)),fits (List.length (strs z)),wh f (List.map M44.unI (ints y)) (List.map unS (strs z)) b = (Pr.mk o1 nm1 n1 m1 u1 l1,y1,z1,b1),inInt (k + (1:Int))]) (h:Ends (cWh f none none (.mk o1 nm1 n1 m1 u1 l1,y1,z1,b1)) 1 (hd 25 td25 88 [(0,V.pt (0) (0) (0) (0)),(2,V.pt (1) (0) (0) (0)),(7,V.pt (2) (0) (0) (0)),(72,I c),(73,I (k + (1:Int)))] [Slot.live (Row.box [V.d (D.list (ints (Prod.fst (Prod.snd (Pr.mk o1 nm1 n1 m1 u1 l1,y1,z1,b1))))),V.d (D.list (strs (Prod.fst (Prod.snd (Prod.snd (Pr.mk o1 nm1 n1 m1 u1 l1,y1,z1,b1)))))),V.d (D.bool (Prod.snd (Prod.snd (Prod.snd (Pr.mk o1 nm1 n1 m1 u1 l1,y1,z1,b1)))))] false),Slot.live (Row.box [I 0,V.d (D.str { data:={ toList:=[] } }),I 0,I 0,V.d (D.str { data:={ toList:=[] } }),V.nil] false),Slot.live (Row.box [I o,V.d (D.str { data:={ toList:=nm } }),I n,I m,V.d (D.str { data:={ toList:=u } }),V.sl (3) (6) (0) (1) (1) false] false),Slot.live (Row.dat (6) [D.agg [D.int IntKind.i64 (Pr.op (Prod.fst (Pr.mk o1 nm1 n1 m1 u1 l1,y1,z1,b1))),D.str { data:={ toList:=nm1 } },D.int IntKind.i64 (Pr.n (Prod.fst (Pr.mk o1 nm1 n1 m1 u1 l1,y1,z1,b1))),D.int IntKind.i64 (Pr.m (Prod.fst (Pr.mk o1 nm1 n1 m1 u1 l1,y1,z1,b1))),D.str { data:={ toList:=u1 } },D.list (prDs (Pr.subs (Prod.fst (Pr.mk o1 nm1 n1 m1 u1 l1,y1,z1,b1))))]] false)]) Q):Ends (cWh f none none (.mk o1 nm1 n1 m1 u1 l1,y1,z1,b1)) 1 (H25a y z b o n m nm u c k) Q :=
  Ends.turn (cWh_ok hf none none (.mk o1 nm1 n1 m1 u1 l1,y1,z1,b1)) (hints [(74,true),(78,false)] [] [] 0 false true) anyLoop 140 [0,
 1,
 2,
 8] [0,2,7,72,73] (by kernel_rfl) hp h
theorem wl_af {f:Nat} (hf:WhOK f) {y:List Int} {z:List Bs} {b:Bool} {o n m c k:Int} {nm u:Bs} {o1 n1 m1:Int} {nm1 u1:Bs} {l1:List Pr} {y1:List Int} {z1:List Bs} {b1:Bool} {Q:V→Aev.Rows→Prop} (hp:AllP [decide (k < c) = false]) (h:Q (V.agg [I o,V.d (D.str { data:={ toList:=nm } }),I n,I m,V.d (D.str { data:={ toList:=u } }),V.nil]) ([Slot.live (Row.box [V.d (D.list (ints y)),V.d (D.list (strs z)),V.d (D.bool b)] false),Slot.live (Row.box [I o,V.d (D.str { data:={ toList:=nm } }),I n,I m,V.d (D.str { data:={ toList:=u } }),V.nil] false),Slot.live (Row.box [I o,V.d (D.str { data:={ toList:=nm } }),I n,I m,V.d (D.str { data:={ toList:=u } }),V.nil] false)])):Ends (cWh f none none (.mk o1 nm1 n1 m1 u1 l1,y1,z1,b1)) 1 (H25a y z b o n m nm u c k) Q :=
 Ends.toFin (cWh_ok hf none none (.mk o1 nm1 n1 m1 u1 l1,y1,z1,b1)) (hints [(74,false)] [] [] 0 false true) anyLoop 140 (by kernel_rfl) hp h
theorem wl_btt {f:Nat} (hf:WhOK f) {y:List Int} {z:List Bs} {b:Bool} {o n m c k:Int} {nm u:Bs} {es:List D} {o1 n1 m1:Int} {nm1 u1:Bs} {l1:List Pr} {y1:List Int} {z1:List Bs} {b1:Bool} {Q:V→Aev.Rows→Prop} (hp:AllP [decide (k < c) = true,b = true]) (h:Q (V.agg [I o,V.d (D.str { data:={ toList:=nm } }),I n,I m,V.d (D.str { data:={ toList:=u } }),V.sl (3) (6) (0) es.length es.length false]) ([Slot.live (Row.box [V.d (D.list (ints y)),V.d (D.list (strs z)),V.d (D.bool b)] false),Slot.live (Row.box [I o,V.d (D.str { data:={ toList:=nm } }),I n,I m,V.d (D.str { data:={ toList:=u } }),V.sl (3) (6) (0) es.length es.length false] false),Slot.live (Row.box [I o,V.d (D.str { data:={ toList:=nm } }),I n,I m,V.d (D.str { data:={ toList:=u } }),V.sl (3) (6) (0) es.length es.length false] false),Slot.live (Row.dat (6) es false)])):Ends (cWh f none none (.mk o1 nm1 n1 m1 u1 l1,y1,z1,b1)) 1 (H25b y z b o n m nm u es c k) Q :=
 Ends.toFin (cWh_ok hf none none (.mk o1 nm1 n1 m1 u1 l1,y1,z1,b1)) (hints [(74,true),(78,true)] [] [] 0 false true) anyLoop 140 (by kernel_rfl) hp h
theorem wl_btf {f:Nat} (hf:WhOK f) {y:List Int} {z:List Bs} {b:Bool} {o n m c k:Int} {nm u:Bs} {es:List D} {o1 n1 m1:Int} {nm1 u1:Bs} {l1:List Pr} {y1:List Int} {z1:List Bs} {b1:Bool} {Q:V→Aev.Rows→Prop} (hp:AllP [decide (k < c) = true,b = false,isI (ints y),isS (strs z),List.length (ints y) < 2 * f,fits (List.length (ints y)),fits (List.length (strs z)),wh f (List.map M44.unI (ints y)) (List.map unS (strs z)) b = (Pr.mk o1 nm1 n1 m1 u1 l1,y1,z1,b1),6 = 6∧6 = 6∧1 ≤ 1,0 < 6∧1 ≠ 0∧6 = 6∧6 = 6∧0 + List.length es ≤ List.length es∧¬List.length es + 1 ≤ List.length es∧2 * (List.length es + 1) * 80 ≤ 281474976710656∧List.length es + 1 ≤ 4611686018427387904,inInt (k + (1:Int))]) (h:Ends (cWh f none none (.mk o1 nm1 n1 m1 u1 l1,y1,z1,b1)) 1 (hd 25 td25 88 [(0,V.pt (0) (0) (0) (0)),(2,V.pt (1) (0) (0) (0)),(7,V.pt (2) (0) (0) (0)),(72,I c),(73,I (k + (1:Int)))] [Slot.live (Row.box [V.d (D.list (ints (Prod.fst (Prod.snd (Pr.mk o1 nm1 n1 m1 u1 l1,y1,z1,b1))))),V.d (D.list (strs (Prod.fst (Prod.snd (Prod.snd (Pr.mk o1 nm1 n1 m1 u1 l1,y1,z1,b1)))))),V.d (D.bool (Prod.snd (Prod.snd (Prod.snd (Pr.mk o1 nm1 n1 m1 u1 l1,y1,z1,b1)))))] false),Slot.live (Row.box [I 0,V.d (D.str { data:={ toList:=[] } }),I 0,I 0,V.d (D.str { data:={ toList:=[] } }),V.nil] false),Slot.live (Row.box [I o,V.d (D.str { data:={ toList:=nm } }),I n,I m,V.d (D.str { data:={ toList:=u } }),V.sl (3) (6) (0) (List.length es + 1) (List.length es + 1) false] false),Slot.live (Row.dat (6) (List.take es.length (List.drop (0) es) ++ [D.agg [D.int IntKind.i64 (Pr.op (Prod.fst (Pr.mk o1 nm1 n1 m1 u1 l1,y1,z1,b1))),D.str { data:={ toList:=nm1 } },D.int IntKind.i64 (Pr.n (Prod.fst (Pr.mk o1 nm1 n1 m1 u1 l1,y1,z1,b1))),D.int IntKind.i64 (Pr.m (Prod.fst (Pr.mk o1 nm1 n1 m1 u1 l1,y1,z1,b1))),D.str { data:={ toList:=u1 } },D.list (prDs (Pr.subs (Prod.fst (Pr.mk o1 nm1 n1 m1 u1 l1,y1,z1,b1))))]]) false)]) Q):Ends (cWh f none none (.mk o1 nm1 n1 m1 u1 l1,y1,z1,b1)) 1 (H25b y z b o n m nm u es c k) Q :=
  Ends.turn (cWh_ok hf none none (.mk o1 nm1 n1 m1 u1 l1,y1,z1,b1)) (hints [(74,true),(78,false)] [] [] 1 false true) anyLoop 140 [0,
 1,
 2,
 9] [0,2,7,72,73] (by kernel_rfl) hp h
theorem wl_bf {f:Nat} (hf:WhOK f) {y:List Int} {z:List Bs} {b:Bool} {o n m c k:Int} {nm u:Bs} {es:List D} {o1 n1 m1:Int} {nm1 u1:Bs} {l1:List Pr} {y1:List Int} {z1:List Bs} {b1:Bool} {Q:V→Aev.Rows→Prop} (hp:AllP [decide (k < c) = false]) (h:Q (V.agg [I o,V.d (D.str { data:={ toList:=nm } }),I n,I m,V.d (D.str { data:={ toList:=u } }),V.sl (3) (6) (0) es.length es.length false]) ([Slot.live (Row.box [V.d (D.list (ints y)),V.d (D.list (strs z)),V.d (D.bool b)] false),Slot.live (Row.box [I o,V.d (D.str { data:={ toList:=nm } }),I n,I m,V.d (D.str { data:={ toList:=u } }),V.sl (3) (6) (0) es.length es.length false] false),Slot.live (Row.box [I o,V.d (D.str { data:={ toList:=nm } }),I n,I m,V.d (D.str { data:={ toList:=u } }),V.sl (3) (6) (0) es.length es.length false] false),Slot.live (Row.dat (6) es false)])):Ends (cWh f none none (.mk o1 nm1 n1 m1 u1 l1,y1,z1,b1)) 1 (H25b y z b o n m nm u es c k) Q :=
 Ends.toFin (cWh_ok hf none none (.mk o1 nm1 n1 m1 u1 l1,y1,z1,b1)) (hints [(74,false)] [] [] 0 false true) anyLoop 140 (by kernel_rfl) hp h
end Go.Aev.M44
end
section
namespace Go.Aev.M44
set_option maxRecDepth 1000000
open Go Go.Aev
theorem wcn_pr0 {y:Aev.Rows} {a t:List D} {b:Bool} {o n m:Int} {nm u:Bs} (h0:liveAt y 0 = some (.box [.d (.list a),.d (.list t),.d (.bool b)] false)) :
  wcNorm (liveAt y) 1 (.agg [I o,.d (strD nm),I n,I m,.d (strD u),.nil]) = some (.d (.agg [.int .i64 o,strD nm,.int .i64 n,.int .i64 m,strD u,.list []]),boxW a t b):=by
 unfold wcNorm
 show (if _ then match mapO _ [0],_ with | some (rows0:Aev.Rows),some (v0:V)=>some (v0,rows0) | _,_=>none else none) = _
 simp only [mapO,h0]
 rfl
theorem wcn_pr {y:Aev.Rows} {r len c:Nat} {es a t:List D} {b ex ro:Bool} {o n m:Int} {nm u:Bs} (h0:liveAt y 0 = some (.box [.d (.list a),.d (.list t),.d (.bool b)] false)) (hr:liveAt y r = some (.dat 6 es ro)) (h1:1 ≤ r) (hl:len = es.length) :
  wcNorm (liveAt y) 1 (.agg [I o,.d (strD nm),I n,I m,.d (strD u),.sl r 6 0 len c ex]) = some (.d (.agg [.int .i64 o,strD nm,.int .i64 n,.int .i64 m,strD u,.list es]),boxW a t b):=by
 have hn:¬ r < 1:=by omega
 have:cvN (liveAt y) 1 (.agg [I o,.d (strD nm),I n,I m,.d (strD u),.sl r 6 0 len c ex]) = (.d (.agg [.int .i64 o,strD nm,.int .i64 n,.int .i64 m,strD u,.list es]),[(r,.live (.dat 6 es true))]):=by
  unfold cvN convN
  simp only [toDs,toD1,if_neg hn,hr,hl,true_and,Nat.zero_add,Nat.le_refl,if_true,List.drop_zero,List.take_length]
  rfl
 unfold wcNorm
 rw [this]
 show (if _ then match mapO _ [0],_ with | some (rows0:Aev.Rows),some (v0:V)=>some (v0,rows0) | _,_=>none else none) = _
 simp only [mapO,h0]
 rfl
theorem wh_use (f:Nat) (ns:List Int) (ts:List Bs) (b:Bool) (h:(wh f ns ts b).2.2.2 = false):(wh f ns ts b).2.1.length + 4 ≤ ns.length:=by
 cases f with
 | zero=>simp [wh] at h
 | succ f =>
  match ns,ts with
  | o :: n :: m :: c :: ns,nm :: s :: ts =>
   simp only [wh,List.length_cons,show 4 ≤ ns.length + 1 + 1 + 1 + 1 by omega,show 2 ≤ ts.length + 1 + 1 by omega,if_true,List.drop_succ_cons,List.drop_zero,List.take_succ_cons,List.take_zero] at h ⊢
   by_cases hc:b = true ∨ c < 0 ∨ 64 < c
   ·rw [if_pos hc] at h; simp at h
   ·rw [if_neg hc]
    have:=((wh_len f).2 c.toNat ns ts).1
    show (whL f c.toNat ns ts).2.1.length + 4 ≤ _
    omega
  | [],ts=>simp [wh] at h
  | [_],ts=>simp [wh] at h
  | [_,_],ts=>simp [wh] at h
  | [_,_,_],ts=>simp [wh] at h
  | _ :: _ :: _ :: _ :: _,[]=>simp [wh] at h
  | _ :: _ :: _ :: _ :: _,[_]=>simp [wh] at h
noncomputable def HW (y:List Int) (z:List Bs) (b:Bool) (o n m:Int) (nm u:Bs) (es:List D) (c k:Int):AS:=match es with
 | []=>H25a y z b o n m nm u c k
 | e :: r=>H25b y z b o n m nm u (e :: r) c k
def WhR (o n m:Int) (nm u:Bs) (es:List D) (y:List Int) (z:List Bs) (b:Bool):V→Aev.Rows→Prop:=fun v rows=>wcNorm (liveAt rows) 1 v = some (.d (.agg [.int .i64 o,strD nm,.int .i64 n,.int .i64 m,strD u,.list es]),srcR y z b)
theorem wl_end {f:Nat} (hf:WhOK f) {y:List Int} {z:List Bs} {b:Bool} {o n m c k:Int} {nm u:Bs} {es:List D} (h:c ≤ k ∨ b = true) :
  Ends (cWh f none none (.mk 0 [] 0 0 [] [],[],[],false)) 1 (HW y z b o n m nm u es c k) (WhR o n m nm u es y z b):=by
 cases es with
 | nil =>
  by_cases hk:k < c
  ·have hb:b = true:=by rcases h with h | h; omega; exact h
   subst hb
   exact wl_att hf ⟨decide_eq_true hk,rfl,trivial⟩ (wcn_pr0 rfl)
  ·exact wl_af hf ⟨decide_eq_false hk,trivial⟩ (wcn_pr0 rfl)
 | cons e r =>
  by_cases hk:k < c
  ·have hb:b = true:=by rcases h with h | h; omega; exact h
   subst hb
   exact wl_btt hf ⟨decide_eq_true hk,rfl,trivial⟩ (wcn_pr rfl rfl (by omega) rfl)
  ·exact wl_bf hf ⟨decide_eq_false hk,trivial⟩ (wcn_pr rfl rfl (by omega) rfl)
theorem wl_step {f : Nat} (hf : WhOK f) {y : List Int} {z : List Bs} {o n m c k : Int} {nm u : Bs} {es : List D} {Q : V → Aev.Rows → Prop} {o1 n1 m1 : Int} {nm1 u1 : Bs} {l1 : List Pr} {y1 : List Int} {z1 : List Bs} {b1 : Bool}
    (hk : k < c) (hc : c ≤ 64) (hk0 : 0 ≤ k) (hes : (es.length : Int) ≤ k) (hy : y.length < 2 * f) (h1 : fits y.length) (h2 : fits z.length) (hw : wh f y z false = (.mk o1 nm1 n1 m1 u1 l1, y1, z1, b1))
    (h : Ends (cWh f none none (.mk o1 nm1 n1 m1 u1 l1, y1, z1, b1)) 1 (HW y1 z1 b1 o n m nm u (es ++ [prC (.mk o1 nm1 n1 m1 u1 l1)]) c (k + 1)) Q) :
    Ends (cWh f none none (.mk o1 nm1 n1 m1 u1 l1, y1, z1, b1)) 1 (HW y z false o n m nm u es c k) Q := by
  have hi : inInt (k + 1) := by unfold inInt; omega
  cases es with
  | nil => exact wl_atf hf ⟨decide_eq_true hk, rfl, isI_ints y, isS_strs z, by rw [ints_len]; exact hy, by rw [ints_len]; exact h1, by rw [strs_len]; exact h2, by rw [unI_ints, unS_strs]; exact hw, hi, trivial⟩ h
  | cons e r =>
    have hl : (e :: r).length ≤ 64 := by have : ((e :: r).length : Int) ≤ 64 := by omega
                                         omega
    refine wl_btf hf ⟨decide_eq_true hk, rfl, isI_ints y, isS_strs z, by rw [ints_len]; exact hy, by rw [ints_len]; exact h1, by rw [strs_len]; exact h2, by rw [unI_ints, unS_strs]; exact hw, ⟨rfl, rfl, by omega⟩,
      ⟨by omega, by omega, rfl, rfl, by omega, by omega, by omega, by omega⟩, hi, trivial⟩ ?_
    have e1 : List.take (e :: r).length (List.drop 0 (e :: r)) = e :: r := by rw [List.drop_zero, List.take_length]
    have e2 : (e :: r).length + 1 = ((e :: r) ++ [prC (.mk o1 nm1 n1 m1 u1 l1)]).length := by simp
    rw [e1, e2]
    exact h
theorem prDs_append (a b:List Pr):prDs (a ++ b) = prDs a ++ prDs b:=by
 induction a with
 | nil=>rfl
 | cons x a ih=>simp [prDs,ih]
theorem wl_loop:∀ (F:Nat),(∀ f,f < F→WhOK f)→∀ (j:Nat) (k:Nat) (y:List Int) (z:List Bs) (o n m:Int) (nm u:Bs) (es:List D),y.length + 2 < 2 * F→fits y.length→fits z.length→es.length ≤ k→k + j ≤ 64 →
  Ends (cWh 0 none none (.mk 0 [] 0 0 [] [],[],[],false)) 1 (HW y z false o n m nm u es ((k + j:Nat):Int) (k:Int)) (WhR o n m nm u (es ++ prDs (whL F j y z).1) (whL F j y z).2.1 (whL F j y z).2.2.1 (whL F j y z).2.2.2):=by
 intro F
 induction F with
 | zero=>intro _ j k y z o n m nm u es hy; omega
 | succ F ih =>
  intro hW j k y z o n m nm u es hy h1 h2 hes hk
  cases j with
  | zero =>
   simp only [whL,prDs,List.append_nil]
   exact Ends.cfg rfl (wl_end (hW F (Nat.lt_succ_self F)) (.inl (by omega)))
  | succ j =>
   have hF:=hW F (Nat.lt_succ_self F)
   cases hw:wh F y z false with
   | mk p q =>
    obtain ⟨y1,z1,b1⟩:=q
    obtain ⟨o1,nm1,n1,m1,u1,l1⟩:=p
    have hlen:=(wh_len F).1 y z false
    have huse:=wh_use F y z false
    rw [hw] at hlen huse
    simp only at hlen huse
    have f1:fits y1.length:=by unfold fits at *; omega
    have f2:fits z1.length:=by unfold fits at *; omega
    refine Ends.cfg (c:=cWh F none none (.mk o1 nm1 n1 m1 u1 l1,y1,z1,b1)) rfl ?_
    refine wl_step hF (by omega) (by omega) (by omega) (by omega) (by omega) h1 h2 hw ?_
    cases b1 with
    | true =>
     simp only [whL,hw,prDs]
     rw [← prC_eq]
     exact Ends.cfg rfl (wl_end hF (.inr rfl))
    | false =>
     have huse:=huse rfl
     simp only [whL,hw,prDs]
     have:=ih (fun f h=>hW f (by omega)) j (k + 1) y1 z1 o n m nm u (es ++ [prC (.mk o1 nm1 n1 m1 u1 l1)]) (by omega) f1 f2 (by simp; omega) (by omega)
     rw [List.append_assoc,show ((k + 1 + j:Nat):Int) = ((k + (j + 1):Nat):Int) by omega,prC_eq] at this
     rw [prC_eq]
     exact Ends.cfg rfl this
theorem wh_short1 (F:Nat) {ns:List Int} (ts:List Bs) (b:Bool) (h:ns.length < 4):wh (F + 1) ns ts b = (zeroP,ns,(if 2 ≤ ts.length then ts.drop 2 else ts),true):=by
 match ns,h with
 | [],_=>simp [wh]
 | [_],_=>simp [wh]
 | [_,_],_=>simp [wh]
 | [_,_,_],_=>simp [wh]
 | _ :: _ :: _ :: _ :: _,h=>simp at h; omega
theorem wh_short2 (F:Nat) {ns:List Int} {ts:List Bs} (b:Bool) (h:4 ≤ ns.length) (h2:ts.length < 2):wh (F + 1) ns ts b = (zeroP,ns.drop 4,ts,true):=by
 match ns,ts,h,h2 with
 | [],_,h,_=>simp at h
 | [_],_,h,_=>simp at h
 | [_,_],_,h,_=>simp at h
 | [_,_,_],_,h,_=>simp at h
 | _ :: _ :: _ :: _ :: _,[],_,_=>simp [wh]
 | _ :: _ :: _ :: _ :: _,[_],_,_=>simp [wh]
 | _,_ :: _ :: _,_,h=>simp at h; omega
theorem wh_ok:∀ (F:Nat),WhOK F:=by
 intro F
 induction F using Nat.strongRecOn with
 | ind F ih =>
  intro ns ts b hy h1 h2
  cases F with
  | zero=>omega
  | succ F =>
   have hF:=ih F (Nat.lt_succ_self F)
   have h1':=h1
   have h2':=h2
   unfold fits at h1' h2'
   refine Does.norm (rows:=srcR ns ts b) (does_of (k:=1) (R:=fun x y=>wcNorm (liveAt y) 1 x = some (.d (prC (wh (F + 1) ns ts b).1),srcR (wh (F + 1) ns ts b).2.1 (wh (F + 1) ns ts b).2.2.1 (wh (F + 1) ns ts b).2.2.2)) (cWh_ok hF none none (zeroP,[],[],false)) (by kernel_rfl) ?_) (fun x y h=>h)
   have zr:∀ {y:Aev.Rows} {a t:List D} {b:Bool},liveAt y 0 = some (.box [.d (.list a),.d (.list t),.d (.bool b)] false)→wcNorm (liveAt y) 1 (V.agg [I 0,.d (strD []),I 0,I 0,.d (strD []),V.nil]) = some (.d (prC zeroP),boxW a t b):=fun h=>wcn_pr0 h
   have bad1:ns.length < 4→Ends (cWh F none none (zeroP,[],[],false)) 1 (start (cWh F none none (zeroP,[],[],false)) 25 [.pt 0 0 0 0] (srcR ns ts b)) (fun x y=>wcNorm (liveAt y) 1 x = some (.d (prC (wh (F + 1) ns ts b).1),srcR (wh (F + 1) ns ts b).2.1 (wh (F + 1) ns ts b).2.2.1 (wh (F + 1) ns ts b).2.2.2)):=by
    intro hs
    rw [wh_short1 F ts b hs]
    by_cases hts:2 ≤ ts.length
    ·rw [if_pos hts]
     refine Ends.cfg (c:=cWh F none (some (ts.take 2,ts.drop 2)) (zeroP,[],[],false)) rfl ?_
     have p:(4:Int) < 0 ∨ ((ints ns).length:Int) < 4:=by rw [ints_len]; omega
     have q1:(2:Int) ≤ ((strs ts).length:Nat):=by rw [strs_len]; omega
     have q2:fits (strs ts).length:=by rw [strs_len]; exact h2
     cases b with
     | true=>exact wh_ct hF ⟨isI_ints _,isS_strs _,p,isI_ints _,isS_strs _,by omega,q1,q2,by rw [unS_strs],by rw [unS_strs],rfl,rfl,rfl,trivial⟩ (zr rfl)
     | false=>exact wh_cf hF ⟨isI_ints _,isS_strs _,p,isI_ints _,isS_strs _,by omega,q1,q2,by rw [unS_strs],by rw [unS_strs],rfl,rfl,rfl,trivial⟩ (zr rfl)
    ·rw [if_neg hts]
     have p:(4:Int) < 0 ∨ ((ints ns).length:Int) < 4:=by rw [ints_len]; omega
     have q:(2:Int) < 0 ∨ ((strs ts).length:Int) < 2:=by rw [strs_len]; omega
     cases b with
     | true=>exact wh_at hF ⟨isI_ints _,isS_strs _,p,isI_ints _,isS_strs _,q,rfl,rfl,rfl,trivial⟩ (zr rfl)
     | false=>exact wh_af hF ⟨isI_ints _,isS_strs _,p,isI_ints _,isS_strs _,q,rfl,rfl,rfl,trivial⟩ (zr rfl)
   have bad2:4 ≤ ns.length→ts.length < 2→Ends (cWh F none none (zeroP,[],[],false)) 1 (start (cWh F none none (zeroP,[],[],false)) 25 [.pt 0 0 0 0] (srcR ns ts b)) (fun x y=>wcNorm (liveAt y) 1 x = some (.d (prC (wh (F + 1) ns ts b).1),srcR (wh (F + 1) ns ts b).2.1 (wh (F + 1) ns ts b).2.2.1 (wh (F + 1) ns ts b).2.2.2)):=by
    intro hs hts
    rw [wh_short2 F b hs hts]
    refine Ends.cfg (c:=cWh F (some (ns.take 4,ns.drop 4)) none (zeroP,[],[],false)) rfl ?_
    have p1:(4:Int) ≤ ((ints ns).length:Nat):=by rw [ints_len]; omega
    have p2:fits (ints ns).length:=by rw [ints_len]; exact h1
    have q:(2:Int) < 0 ∨ ((strs ts).length:Int) < 2:=by rw [strs_len]; omega
    cases b with
    | true=>exact wh_bt hF ⟨isI_ints _,isS_strs _,by omega,p1,p2,by rw [unI_ints],by rw [unI_ints],isI_ints _,isS_strs _,q,rfl,rfl,rfl,trivial⟩ (zr rfl)
    | false=>exact wh_bf hF ⟨isI_ints _,isS_strs _,by omega,p1,p2,by rw [unI_ints],by rw [unI_ints],isI_ints _,isS_strs _,q,rfl,rfl,rfl,trivial⟩ (zr rfl)
   match ns,ts with
   | o :: n :: m :: c :: ns,nm :: s :: ts =>
    have t1:List.take 4 (List.map unI (ints (o :: n :: m :: c :: ns))) = [o,n,m,c]:=by rw [unI_ints]; simp
    have t2:List.drop 4 (List.map unI (ints (o :: n :: m :: c :: ns))) = ns:=by rw [unI_ints]; simp
    have t3:List.take 2 (List.map unS (strs (nm :: s :: ts))) = [nm,s]:=by rw [unS_strs]; simp
    have t4:List.drop 2 (List.map unS (strs (nm :: s :: ts))) = ts:=by rw [unS_strs]; simp
    have l1:(4:Int) ≤ ((ints (o :: n :: m :: c :: ns)).length:Nat):=by rw [ints_len]; simp only [List.length_cons]; omega
    have l2:(2:Int) ≤ ((strs (nm :: s :: ts)).length:Nat):=by rw [strs_len]; simp only [List.length_cons]; omega
    have g1:fits (ints (o :: n :: m :: c :: ns)).length:=by rw [ints_len]; exact h1
    have g2:fits (strs (nm :: s :: ts)).length:=by rw [strs_len]; exact h2
    refine Ends.cfg (c:=cWh F (some ([o,n,m,c],ns)) (some ([nm,s],ts)) (zeroP,[],[],false)) rfl ?_
    simp only [List.length_cons] at hy h1' h2'
    cases b with
    | true =>
     refine wh_dt hF ⟨isI_ints _,isS_strs _,by omega,l1,g1,t1,t2,isI_ints _,isS_strs _,by omega,l2,g2,t3,t4,rfl,rfl,rfl,trivial⟩ ?_
     have:wh (F + 1) (o :: n :: m :: c :: ns) (nm :: s :: ts) true = (zeroP,ns,ts,true):=by simp [wh]
     rw [this]
     exact zr rfl
    | false =>
     by_cases hc:c < 0
     ·refine wh_dft hF ⟨isI_ints _,isS_strs _,by omega,l1,g1,t1,t2,isI_ints _,isS_strs _,by omega,l2,g2,t3,t4,rfl,rfl,rfl,decide_eq_true hc,decide_eq_true hc,decide_eq_true hc,decide_eq_true hc,decide_eq_true hc,trivial⟩ ?_
      have:wh (F + 1) (o :: n :: m :: c :: ns) (nm :: s :: ts) false = (zeroP,ns,ts,true):=by simp [wh,hc]
      rw [this]
      exact zr rfl
     ·by_cases hc2:c > 64
      ·refine wh_dfft hF ⟨isI_ints _,isS_strs _,by omega,l1,g1,t1,t2,isI_ints _,isS_strs _,by omega,l2,g2,t3,t4,rfl,rfl,rfl,decide_eq_false hc,decide_eq_false hc,decide_eq_false hc,decide_eq_false hc,decide_eq_false hc,decide_eq_true hc2,trivial⟩ ?_
       have:wh (F + 1) (o :: n :: m :: c :: ns) (nm :: s :: ts) false = (zeroP,ns,ts,true):=by simp [wh,hc2]
       rw [this,decide_eq_true hc2]
       exact zr rfl
      ·refine wh_dfff hF ⟨isI_ints _,isS_strs _,by omega,l1,g1,t1,t2,isI_ints _,isS_strs _,by omega,l2,g2,t3,t4,rfl,rfl,rfl,decide_eq_false hc,decide_eq_false hc,decide_eq_false hc,decide_eq_false hc,decide_eq_false hc,decide_eq_false hc2,trivial⟩ ?_
       have:wh (F + 1) (o :: n :: m :: c :: ns) (nm :: s :: ts) false = (.mk o nm n m s (whL F c.toNat ns ts).1,(whL F c.toNat ns ts).2.1,(whL F c.toNat ns ts).2.2.1,(whL F c.toNat ns ts).2.2.2):=by
        simp only [wh,List.length_cons,show 4 ≤ ns.length + 1 + 1 + 1 + 1 by omega,show 2 ≤ ts.length + 1 + 1 by omega,if_true,List.drop_succ_cons,List.drop_zero,List.take_succ_cons,List.take_zero]
        rw [if_neg (by simp; omega)]
       rw [this,decide_eq_false hc2]
       have hl:=wl_loop F (fun f h=>ih f (by omega)) c.toNat 0 ns ts o n m nm s [] (by omega) (by unfold fits; omega) (by unfold fits; omega) (by simp) (by omega)
       rw [show ((0 + c.toNat:Nat):Int) = c by omega] at hl
       exact Ends.cfg rfl hl
   | [],ts=>exact bad1 (by simp)
   | [_],ts=>exact bad1 (by simp)
   | [_,_],ts=>exact bad1 (by simp)
   | [_,_,_],ts=>exact bad1 (by simp)
   | o :: n :: m :: c :: ns,[]=>exact bad2 (by simp) (by simp)
   | o :: n :: m :: c :: ns,[s]=>exact bad2 (by simp) (by simp)
end Go.Aev.M44
end
section
namespace Go.Aev.M44
set_option maxRecDepth 1000000
open Go Go.Aev
mutual
def rw':Nat→List Int→List Bs→Nat→Option (Pr × Nat)
 | 0,_,_,_=>none
 | f + 1,ns,ts,i=>match (ns.drop (4 * i)).take 4,(ts.drop (2 * i)).take 2 with
  | [o,n,m,c],[nm,s]=>if c < 0 ∨ 64 < c then none else match rwL f c.toNat ns ts (i + 1) with
   | some (l,k)=>some (.mk o nm n m s l,k + 1)
   | none=>none
  | _,_=>none
def rwL:Nat→Nat→List Int→List Bs→Nat→Option (List Pr × Nat)
 | _,0,_,_,_=>some ([],0)
 | 0,_ + 1,_,_,_=>none
 | f + 1,k + 1,ns,ts,i=>match rw' f ns ts i with
  | none=>none
  | some (p,a)=>match rwL f k ns ts (i + a) with
   | none=>none
   | some (l,b)=>some (p :: l,a + b)
end
theorem drop4 {ns:List Int} {i:Nat}:(∃ o n m c r,ns.drop (4 * i) = o :: n :: m :: c :: r∧ns.drop (4 * (i + 1)) = r) ∨ ns.length < 4 * i + 4:=by
 rcases Nat.lt_or_ge ns.length (4 * i + 4) with h | h
 ·exact .inr h
 ·left
  have hl:(ns.drop (4 * i)).length = ns.length - 4 * i:=List.length_drop
  have he:ns.drop (4 * (i + 1)) = (ns.drop (4 * i)).drop 4:=by rw [List.drop_drop]; congr 1
  match hd:ns.drop (4 * i) with
  | o :: n :: m :: c :: r=>exact ⟨o,n,m,c,r,rfl,by rw [he,hd]; rfl⟩
  | []=>rw [hd] at hl; simp at hl; omega
  | [_]=>rw [hd] at hl; simp at hl; omega
  | [_,_]=>rw [hd] at hl; simp at hl; omega
  | [_,_,_]=>rw [hd] at hl; simp at hl; omega
theorem drop2 {ts:List Bs} {i:Nat}:(∃ a b r,ts.drop (2 * i) = a :: b :: r∧ts.drop (2 * (i + 1)) = r) ∨ ts.length < 2 * i + 2:=by
 rcases Nat.lt_or_ge ts.length (2 * i + 2) with h | h
 ·exact .inr h
 ·left
  have hl:(ts.drop (2 * i)).length = ts.length - 2 * i:=List.length_drop
  have he:ts.drop (2 * (i + 1)) = (ts.drop (2 * i)).drop 2:=by rw [List.drop_drop]; congr 1
  match hd:ts.drop (2 * i) with
  | a :: b :: r=>exact ⟨a,b,r,rfl,by rw [he,hd]; rfl⟩
  | []=>rw [hd] at hl; simp at hl; omega
  | [_]=>rw [hd] at hl; simp at hl; omega
theorem rw_pw:∀ (f:Nat),
  (∀ (ns:List Int) (ts:List Bs) (i:Nat),pw f (ns.drop (4 * i)) (ts.drop (2 * i)) = (rw' f ns ts i).map fun r=>(r.1,ns.drop (4 * (i + r.2)),ts.drop (2 * (i + r.2)))) ∧
  (∀ (k:Nat) (ns:List Int) (ts:List Bs) (i:Nat),pwL f k (ns.drop (4 * i)) (ts.drop (2 * i)) = (rwL f k ns ts i).map fun r=>(r.1,ns.drop (4 * (i + r.2)),ts.drop (2 * (i + r.2)))):=by
 intro f
 induction f with
 | zero =>
  refine ⟨fun ns ts i=>by simp [pw,rw'],fun k ns ts i=>?_⟩
  cases k <;> simp [pwL,rwL]
 | succ f ih =>
  obtain ⟨ih1,ih2⟩:=ih
  refine ⟨fun ns ts i=>?_,fun k ns ts i=>?_⟩
  ·rcases drop4 (ns:=ns) (i:=i) with ⟨o,n,m,c,r,h1,h2⟩ | h1
   ·rcases drop2 (ts:=ts) (i:=i) with ⟨a,b,q,h3,h4⟩ | h3
    ·rw [h1,h3]
     simp only [pw,rw',h1,h3,List.take_succ_cons,List.take_zero]
     by_cases hc:c < 0 ∨ 64 < c
     ·rw [if_pos hc,if_pos hc]; rfl
     ·rw [if_neg hc,if_neg hc]
      have:=ih2 c.toNat ns ts (i + 1)
      rw [h2,h4] at this
      rw [this]
      cases rwL f c.toNat ns ts (i + 1) with
      | none=>rfl
      | some p =>
       obtain ⟨l,k⟩:=p
       simp only [Option.map_some]
       rw [show i + 1 + k = i + (k + 1) by omega]
    ·have hl:(ts.drop (2 * i)).length < 2:=by rw [List.length_drop]; omega
     rw [h1]
     match hd:ts.drop (2 * i) with
     | []=>simp [pw,rw',h1,hd]
     | [_]=>simp [pw,rw',h1,hd]
     | _ :: _ :: _=>rw [hd] at hl; simp at hl; omega
   ·have hl:(ns.drop (4 * i)).length < 4:=by rw [List.length_drop]; omega
    match hd:ns.drop (4 * i) with
    | []=>simp [pw,rw',hd]
    | [_]=>simp [pw,rw',hd]
    | [_,_]=>simp [pw,rw',hd]
    | [_,_,_]=>simp [pw,rw',hd]
    | _ :: _ :: _ :: _ :: _=>rw [hd] at hl; simp at hl; omega
  ·cases k with
   | zero=>simp [pwL,rwL]
   | succ k =>
    simp only [pwL,rwL]
    rw [ih1 ns ts i]
    cases rw' f ns ts i with
    | none=>rfl
    | some p =>
     obtain ⟨p,a⟩:=p
     simp only [Option.map_some]
     rw [ih2 k ns ts (i + a)]
     cases rwL f k ns ts (i + a) with
     | none=>rfl
     | some q =>
      obtain ⟨l,b⟩:=q
      simp only [Option.map_some]
      rw [show i + a + b = i + (a + b) by omega]
theorem rw_pos:∀ {f:Nat} {ns:List Int} {ts:List Bs} {i:Nat} {p:Pr} {k:Nat},rw' f ns ts i = some (p,k)→1 ≤ k
 | 0,_,_,_,_,_,h=>by simp [rw'] at h
 | f + 1,ns,ts,i,p,k,h=>by
  simp only [rw'] at h
  split at h
  ·split at h
   ·cases h
   ·split at h
    ·cases h; omega
    ·cases h
  ·cases h
def rwC (p:Pr) (k:Nat):V:=.d (.agg [.int .i64 p.op,strD p.name,.int .i64 p.n,.int .i64 p.m,strD p.s,.list (prDs p.subs),.int .i64 (k:Int),.bool true])
def rwV:Option (Pr × Nat)→V
 | some (p,k)=>rwC p k
 | none=>.d (.agg [.int .i64 0,strD [],.int .i64 0,.int .i64 0,strD [],.list [],.int .i64 0,.bool false])
def rwIs (f:Nat) (ns:List Int) (ts:List Bs) (i:Nat) (r:Option (Pr × Nat)):Prop:=rw' f ns ts i = r
def tabR (f:Nat) (r:Option (Pr × Nat)) (g:FuncId) (args:List V) (rows:Aev.Rows):Option (List Prop × V) :=
 match g,args,rows with
 | 28,[.d (.list a),.d (.list t),.d (.int .i64 i)],[]=>some ([isI a,isS t,0 ≤ i,i ≤ 1073741824,a.length < 2 * f + 4 * i.toNat,fits a.length,fits t.length,rwIs f (a.map unI) (t.map unS) i.toNat r],rwV r)
 | _,_,_=>none
noncomputable def cRw (f:Nat) (r:Option (Pr × Nat)):SCfg:=mk (fun _=>true) (tabR f r)
def RwOK (f:Nat):Prop:=∀ (ns:List Int) (ts:List Bs) (i:Nat),i ≤ 1073741824→ns.length < 2 * f + 4 * i→fits ns.length→fits ts.length →
 RCs PP 28 [L ns,.d (.list (strs ts)),I (i:Nat)] [] (rwV (rw' f ns ts i))
theorem tabR_ok {f:Nat} (hf:RwOK f) {r:Option (Pr × Nat)}:TableOK (cRw f r):=by
 intro g args rows ps v h hp
 change tabR f r g args rows = _ at h
 unfold tabR at h
 split at h
 ·rename_i a t i
  cases h
  obtain ⟨h1,h2,h3,h4,h5,h6,h7,h8,_⟩:=hp
  unfold isI at h1; unfold isS at h2; unfold rwIs at h8
  have:=hf (a.map unI) (t.map unS) i.toNat (by omega) (by rw [List.length_map]; exact h5) (by rw [List.length_map]; exact h6) (by rw [List.length_map]; exact h7)
  rw [h8,← h2,L,← h1,Int.toNat_of_nonneg h3] at this
  exact this
 ·cases h
theorem cRw_ok {f:Nat} (hf:RwOK f) (r:Option (Pr × Nat)):COK (cRw f r).cfg:=mk_ok (tabR_ok hf)
end Go.Aev.M44
end
