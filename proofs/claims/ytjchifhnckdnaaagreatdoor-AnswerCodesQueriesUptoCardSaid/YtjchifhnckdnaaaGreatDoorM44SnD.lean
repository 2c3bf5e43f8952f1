/- Lemmas for the statements of this seat: an abstract machine that the model follows, and contracts of functions. Conditions: none. -/
import Derived.Test.YtjchifhnckdnaaaGreatDoorA25
set_option linter.unusedVariables false
set_option linter.unusedSimpArgs false
set_option linter.unusedSectionVars false
namespace Go.Aev.M44
set_option maxRecDepth 1000000
def isD (k:IntKind) (l:List Nat):List D:=l.map fun n=>.int k (.ofNat n)
def st (l:List Nat):D:=.str ⟨⟨l.map UInt8.ofNat⟩⟩
def sameN (i:Int) (n:Nat):Bool:=sameI i (.ofNat n)
noncomputable def mixT (g:FuncId) (args:List V) (rows:Aev.Rows):Option V:=match Nat.beq g 359 with
 | true=>match rows with
  | []=>match args with
   | [.d (.int .u32 x),.d (.int .i64 i),.d (.int .i64 j),.d (.int .i64 k)]=>match sameN i 6 && sameN j 11 && sameN k 25 with
    | true=>litI (mixI x 26 6 21 11 7 25) fun n=>some (.d (.int .u32 n))
    | false=>match sameN i 2 && sameN j 13 && sameN k 22 with
     | true=>litI (mixI x 30 2 19 13 10 22) fun n=>some (.d (.int .u32 n))
     | false=>none
   | _=>none
  | _=>none
 | false=>none
theorem mixT_ok {g:FuncId} {args:List V} {rows:Aev.Rows} {v:V} (h:mixT g args rows = some v):RCs PP g args rows v:=by
 unfold mixT at h
 split at h
 ·rename_i hg
  rw [Nat.beq_eq] at hg
  subst hg
  split at h
  ·split at h
   ·rename_i x i j k
    split at h
    ·rename_i hh
     simp only [Bool.and_eq_true] at hh
     rw [litI_eq] at h
     cases h
     have e1:=sameI_eq hh.1.1
     have e2:=sameI_eq hh.1.2
     have e3:=sameI_eq hh.2
     subst e1 e2 e3
     exact mix1 x
    ·split at h
     ·rename_i hh
      simp only [Bool.and_eq_true] at hh
      rw [litI_eq] at h
      cases h
      have e1:=sameI_eq hh.1.1
      have e2:=sameI_eq hh.1.2
      have e3:=sameI_eq hh.2
      subst e1 e2 e3
      exact mix2 x
     ·cases h
   ·cases h
  ·cases h
 ·cases h
def memN (l:List Nat) (g:Nat):Bool:=match l with
 | []=>false
 | x :: l=>match Nat.beq x g with
  | true=>true
  | false=>memN l g
def poS (g:FuncId):Bool:=memN [5,7,8,12,14,16,17,18,19,20,21,56,59,71,74,76,78,135,153,243,245,251,331,383,389] g
def wcS (g:FuncId):Bool:=memN [24,25,30,31,83,399,400,457,458] g
noncomputable def bs (t:List Ent):Base:={ P:=PP,T:=tyOf PP,F:=fun g=>PP.funcs[g]?,rc:=rcBy PP,po:=poS,fuel:=100000,wc:=wcS,tab:=fun g args rows=>match mixT g args rows with
 | some v=>some v
 | none=>lookT t g args rows }
theorem bs_ok {t:List Ent} (ht:∀ e ∈ t,RCs PP e.g e.args e.rows e.v):BOK (bs t):=by
 refine ⟨fun _ _ h=>h,fun g gf h=>⟨h,name_by names h⟩,rcs_by names,mixed,fun g args rows v h=>?_⟩
 have h':(match mixT g args rows with | some v=>some v | none=>lookT t g args rows) = some v:=h
 cases hm:mixT g args rows with
 | some v'=>rw [hm] at h'; cases h'; exact mixT_ok hm
 | none=>rw [hm] at h'; exact ht _ (lookT_mem h')
def Run (t:List Ent) (e:Ent):Prop:=runT ((bs t).fcfg 12) 100000 e.g e.args e.rows = some e.v
abbrev TOks (t:List Ent):Prop:=∀ e ∈ t,RCs PP e.g e.args e.rows e.v
theorem tnil:TOks []:=fun e h=>by cases h
theorem tcons {t:List Ent} {e:Ent} (h:Run t e) (ht:TOks t):TOks (e :: t):=by
 intro x hx
 rcases List.mem_cons.1 hx with rfl | hx
 ·exact rcs_of_runT (fcfg_ok (bs_ok ht) 12) h
 ·exact ht x hx
def d0:D:=.list [.agg [.int .i64 1,.int .i64 1,.int .i64 1]]
def d1:D:=.agg [.int .i64 1073741825,.int .i64 1,st [107],.int .i64 0,.int .i64 1048577]
def d2:D:=.agg [d0,.list []]
def d3:D:=.agg (isD .u32 [1779033703,3144134277,1013904242,2773480762,1359893119,2600822924,528734635,1541459225])
def d4:D:=.agg (isD .u32 [1569161965,104582856,1171928204,3250651559,1755105926,1583198731,2161866400,3347752840])
def d5:D:=.agg (isD .u32 [582980761,1061513459,3671546433,346545119,1713621190,1531184514,417361061,2390449417])
def d6:D:=.agg (isD .u32 [1417747759,663169931,790029206,1119319165,2405829395,821273417,1726583669,2200309097])
def d7:D:=.agg (isD .u32 [1894843186,1475804868,4200092944,2031445016,3393160670,753739646,549134068,1762755663])
def d8:D:=.agg (isD .u32 [2750649656,4117777589,4044077731,2031330884,1988561571,3670547071,4005320654,3983558703])
def d9:D:=.agg [.int .i64 1,.int .i64 1,.int .i64 1,.int .i64 0,.int .i64 0,.int .i64 1048577,.int .i64 1,.list [.int .i64 5],.list []]
def d10:D:=.agg [.int .i64 2,.int .i64 1,.int .i64 1,.int .i64 0,.int .i64 0,.int .i64 1048577,.int .i64 1,.list [.int .i64 9],.list []]
def d11:D:=.agg [.int .i64 2,.list [.int .i64 5],.list [.int .i64 9],.list [],.int .i64 0,.int .i64 0,.int .i64 1048577,.int .i64 1,.int .i64 1,.list []]
def d12:D:=.agg [.int .i64 0,.int .i64 1,.int .i64 1,.int .i64 1,.int .i64 0,.int .i64 0,.int .i64 1048577,.int .i64 1,.list [.int .i64 5],.list [],.int .i64 0]
def d13:D:=.agg [.int .i64 1,.int .i64 2,.int .i64 1,.int .i64 1,.int .i64 0,.int .i64 0,.int .i64 1048577,.int .i64 1,.list [.int .i64 9],.list [],.int .i64 0]
def d14:D:=.agg [.list [.int .i64 6],.int .i64 1,.int .i64 134217728,.int .i64 1,st [],.int .i64 0,.int .i64 0,st [],.list [],.int .i64 2,.int .i64 1,.int .i64 0]
def d15:D:=.agg (isD .u8 [230,240,96,101,135,232,118,218,211,161,20,24,203,51,50,55])
def d16:D:=.agg (isD .u8 [141,24,71,236,175,225,216,194,105,218,113,135,50,215,7,49])
def d17:D:=.agg (isD .u8 [255,54,104,145,241,43,32,126,6,102,87,7,3,137,50,174])
def d18:D:=.agg (isD .u8 [97,254,102,247,74,132,56,98,204,33,228,37,107,235,47,158])
def d19:D:=.agg (isD .u8 [194,238,23,20,14,225,51,238,191,7,144,192,142,81,149,233])
def d20:D:=.agg (isD .u8 [169,114,199,204,127,70,191,247,185,250,235,213,244,228,231,135])
def d21:D:=.agg (isD .u8 [71,224,58,153,26,182,106,241,45,105,8,108,41,82,17,63])
def d22:D:=.agg (isD .u8 [212,176,34,8,199,130,64,222,244,198,108,174,39,223,121,73])
def d23:D:=.agg (isD .u8 [143,7,177,10,199,86,91,73,63,171,12,17,74,152,135,200])
def d24:D:=.agg (isD .u8 [255,158,217,47,201,238,56,117,34,53,171,11,245,167,191,201])
def d25:D:=.agg (isD .u8 [204,50,213,17,119,169,234,216,20,152,65,135,170,247,57,35])
def d26:D:=.agg (isD .u8 [184,177,109,183,161,81,87,1,94,79,249,154,69,89,250,173])
def d27:D:=.agg (isD .u8 [0,0,0,0,0,0,0,0,0,0,0,0,0,0,0,0])
def d28:D:=.list (isD .u8 [24,4,0,0,130,128,128,1,2,2,2,10,2,18,0,0,0])
def d29:D:=.list (isD .u8 [22,2,128,128,128,128,1,4,2,0,2,12,2,0,0,0,4,0,0])
def d30:D:=.list [d9,d10]
def d31:D:=.agg [.int .u8 255,.int .u8 54,.int .u8 104,.int .u8 145,.int .u8 241,.int .u8 43,.int .u8 32,.int .u8 126,.int .u8 6,.int .u8 102,.int .u8 87,.int .u8 7,.int .u8 3,.int .u8 137,.int .u8 50,.int .u8 174,.int .u8 169,.int .u8 114,.int .u8 199,.int .u8 204,.int .u8 127,.int .u8 70,.int .u8 191,.int .u8 247,.int .u8 185,.int .u8 250,.int .u8 235,.int .u8 213,.int .u8 244,.int .u8 228,.int .u8 231,.int .u8 135,.int .i64 2]
def d32:D:=.list [d31]
def d33:D:=.agg [.int .i64 1,.int .i64 0,.list [],.int .i64 2,.list [.int .i64 5],.list [.int .i64 9],.list [],.int .i64 0,.int .i64 0,.int .i64 1048577,.int .i64 1,.int .i64 1,.list [],.list [],d30,.list [],.list [.int .i64 0,.int .i64 0]]
def d34:D:=.agg [.int .i64 2,.list [.int .i64 5],.list [.int .i64 9],.list [],.int .i64 0,.int .i64 0,.int .i64 1048577,.int .i64 1,.int .i64 1,.list [],.bool false,.int .u8 0,.int .u8 0,.int .u8 0,.int .u8 0,.int .u8 0,.int .u8 0,.int .u8 0,.int .u8 0,.int .u8 0,.int .u8 0,.int .u8 0,.int .u8 0,.int .u8 0,.int .u8 0,.int .u8 0,.int .u8 0,.list [],d30]
def d35:D:=.agg [.int .i64 1,.int .i64 0,.list [],.int .i64 2,.list [.int .i64 5],.list [.int .i64 9],.list [],.int .i64 0,.int .i64 0,.int .i64 1048577,.int .i64 1,.int .i64 1,.list [],.bool false,.int .u8 0,.int .u8 0,.int .u8 0,.int .u8 0,.int .u8 0,.int .u8 0,.int .u8 0,.int .u8 0,.int .u8 0,.int .u8 0,.int .u8 0,.int .u8 0,.int .u8 0,.int .u8 0,.int .u8 0,.int .u8 0,.list [],d30,.int .u8 54,.int .u8 169,.int .u8 231,.int .u8 241,.int .u8 201,.int .u8 91,.int .u8 130,.int .u8 255,.int .u8 185,.int .u8 151,.int .u8 67,.int .u8 224,.int .u8 197,.int .u8 196,.int .u8 206,.int .u8 149,.list [.int .i64 0,.int .i64 0],.list [],.int .i64 (-1),.int .i64 0,.list [],.list []]
def d36:D:=.list [d35]
def d37:D:=.list (isD .u8 [20,2,0,1,0,0,4,0,0,0,0,2,112,10,2,98,4,2,4,34,24,4,0,0,130,128,128,1,2,2,2,10,2,18,0,0,0,30,20,2,2,2,0,0,130,128,128,1,2,2,10,0,0,30,20,4,2,2,0,0,130,128,128,1,2,2,18,0,0,2,54,169,231,241,201,91,130,255,185,151,67,224,197,196,206,149])
def d38:D:=.agg [.int .i64 1,.int .i64 1,.int .i64 2,.int .i64 0,.int .u8 0,.int .u8 0,.int .u8 0,.int .u8 0,.int .u8 0,.int .u8 0,.int .u8 0,.int .u8 0,.int .u8 0,.int .u8 0,.int .u8 0,.int .u8 0,.int .u8 0,.int .u8 0,.int .u8 0,.int .u8 0,.int .u8 230,.int .u8 240,.int .u8 96,.int .u8 101,.int .u8 135,.int .u8 232,.int .u8 118,.int .u8 218,.int .u8 211,.int .u8 161,.int .u8 20,.int .u8 24,.int .u8 203,.int .u8 51,.int .u8 50,.int .u8 55,.list [],.int .u8 0,.int .u8 0,.int .u8 0,.int .u8 0,.int .u8 0,.int .u8 0,.int .u8 0,.int .u8 0,.int .u8 0,.int .u8 0,.int .u8 0,.int .u8 0,.int .u8 0,.int .u8 0,.int .u8 0,.int .u8 0,.int .i64 0,.int .u8 0,.int .u8 0,.int .u8 0,.int .u8 0,.int .u8 0,.int .u8 0,.int .u8 0,.int .u8 0,.int .u8 0,.int .u8 0,.int .u8 0,.int .u8 0,.int .u8 0,.int .u8 0,.int .u8 0,.int .u8 0,.int .i64 0,.int .i64 1,.int .u8 255,.int .u8 158,.int .u8 217,.int .u8 47,.int .u8 201,.int .u8 238,.int .u8 56,.int .u8 117,.int .u8 34,.int .u8 53,.int .u8 171,.int .u8 11,.int .u8 245,.int .u8 167,.int .u8 191,.int .u8 201]
def d39:D:=.agg [.int .i64 1,.int .i64 2,.int .i64 3,.int .i64 0,.int .u8 0,.int .u8 0,.int .u8 0,.int .u8 0,.int .u8 0,.int .u8 0,.int .u8 0,.int .u8 0,.int .u8 0,.int .u8 0,.int .u8 0,.int .u8 0,.int .u8 0,.int .u8 0,.int .u8 0,.int .u8 0,.int .u8 230,.int .u8 240,.int .u8 96,.int .u8 101,.int .u8 135,.int .u8 232,.int .u8 118,.int .u8 218,.int .u8 211,.int .u8 161,.int .u8 20,.int .u8 24,.int .u8 203,.int .u8 51,.int .u8 50,.int .u8 55,d32,.int .u8 0,.int .u8 0,.int .u8 0,.int .u8 0,.int .u8 0,.int .u8 0,.int .u8 0,.int .u8 0,.int .u8 0,.int .u8 0,.int .u8 0,.int .u8 0,.int .u8 0,.int .u8 0,.int .u8 0,.int .u8 0,.int .i64 0,.int .u8 0,.int .u8 0,.int .u8 0,.int .u8 0,.int .u8 0,.int .u8 0,.int .u8 0,.int .u8 0,.int .u8 0,.int .u8 0,.int .u8 0,.int .u8 0,.int .u8 0,.int .u8 0,.int .u8 0,.int .u8 0,.int .i64 0,.int .i64 1,.int .u8 212,.int .u8 176,.int .u8 34,.int .u8 8,.int .u8 199,.int .u8 130,.int .u8 64,.int .u8 222,.int .u8 244,.int .u8 198,.int .u8 108,.int .u8 174,.int .u8 39,.int .u8 223,.int .u8 121,.int .u8 73]
def d40:D:=.agg [.list [],.int .i64 0,.int .i64 0,.int .i64 0,st [],.int .i64 0,.int .i64 0,st [],.list [],.int .i64 0,.int .i64 0,.int .i64 0,.int .i64 0,.int .i64 0,.int .i64 0,.int .i64 0,.int .u8 0,.int .u8 0,.int .u8 0,.int .u8 0,.int .u8 0,.int .u8 0,.int .u8 0,.int .u8 0,.int .u8 0,.int .u8 0,.int .u8 0,.int .u8 0,.int .u8 0,.int .u8 0,.int .u8 0,.int .u8 0,.int .u8 0,.int .u8 0,.int .u8 0,.int .u8 0,.int .u8 0,.int .u8 0,.int .u8 0,.int .u8 0,.int .u8 0,.int .u8 0,.int .u8 0,.int .u8 0,.int .u8 0,.int .u8 0,.int .u8 0,.int .u8 0,.list [],.int .u8 0,.int .u8 0,.int .u8 0,.int .u8 0,.int .u8 0,.int .u8 0,.int .u8 0,.int .u8 0,.int .u8 0,.int .u8 0,.int .u8 0,.int .u8 0,.int .u8 0,.int .u8 0,.int .u8 0,.int .u8 0,.int .i64 0,.int .u8 0,.int .u8 0,.int .u8 0,.int .u8 0,.int .u8 0,.int .u8 0,.int .u8 0,.int .u8 0,.int .u8 0,.int .u8 0,.int .u8 0,.int .u8 0,.int .u8 0,.int .u8 0,.int .u8 0,.int .u8 0,.int .i64 0,.int .i64 0,.int .u8 0,.int .u8 0,.int .u8 0,.int .u8 0,.int .u8 0,.int .u8 0,.int .u8 0,.int .u8 0,.int .u8 0,.int .u8 0,.int .u8 0,.int .u8 0,.int .u8 0,.int .u8 0,.int .u8 0,.int .u8 0,.int .i64 0,.int .i64 0,.int .i64 0,.int .i64 0,.int .u8 0,.int .u8 0,.int .u8 0,.int .u8 0,.int .u8 0,.int .u8 0,.int .u8 0,.int .u8 0,.int .u8 0,.int .u8 0,.int .u8 0,.int .u8 0,.int .u8 0,.int .u8 0,.int .u8 0,.int .u8 0,.int .u8 0,.int .u8 0,.int .u8 0,.int .u8 0,.int .u8 0,.int .u8 0,.int .u8 0,.int .u8 0,.int .u8 0,.int .u8 0,.int .u8 0,.int .u8 0,.int .u8 0,.int .u8 0,.int .u8 0,.int .u8 0,.list [],.int .u8 0,.int .u8 0,.int .u8 0,.int .u8 0,.int .u8 0,.int .u8 0,.int .u8 0,.int .u8 0,.int .u8 0,.int .u8 0,.int .u8 0,.int .u8 0,.int .u8 0,.int .u8 0,.int .u8 0,.int .u8 0,.int .i64 0,.int .u8 0,.int .u8 0,.int .u8 0,.int .u8 0,.int .u8 0,.int .u8 0,.int .u8 0,.int .u8 0,.int .u8 0,.int .u8 0,.int .u8 0,.int .u8 0,.int .u8 0,.int .u8 0,.int .u8 0,.int .u8 0,.int .i64 0,.int .i64 0,.int .u8 0,.int .u8 0,.int .u8 0,.int .u8 0,.int .u8 0,.int .u8 0,.int .u8 0,.int .u8 0,.int .u8 0,.int .u8 0,.int .u8 0,.int .u8 0,.int .u8 0,.int .u8 0,.int .u8 0,.int .u8 0,.list [],.list [],.int .i64 0,.int .i64 0,.int .u8 0,.int .u8 0,.int .u8 0,.int .u8 0,.int .u8 0,.int .u8 0,.int .u8 0,.int .u8 0,.int .u8 0,.int .u8 0,.int .u8 0,.int .u8 0,.int .u8 0,.int .u8 0,.int .u8 0,.int .u8 0]
def d41:D:=.agg [.list [.int .i64 6],.int .i64 1,.int .i64 134217728,.int .i64 1,st [],.int .i64 0,.int .i64 0,st [],.list [],.int .i64 2,.int .i64 1,.int .i64 0,.int .i64 1,.int .i64 2,.int .i64 3,.int .i64 0,.int .u8 0,.int .u8 0,.int .u8 0,.int .u8 0,.int .u8 0,.int .u8 0,.int .u8 0,.int .u8 0,.int .u8 0,.int .u8 0,.int .u8 0,.int .u8 0,.int .u8 0,.int .u8 0,.int .u8 0,.int .u8 0,.int .u8 230,.int .u8 240,.int .u8 96,.int .u8 101,.int .u8 135,.int .u8 232,.int .u8 118,.int .u8 218,.int .u8 211,.int .u8 161,.int .u8 20,.int .u8 24,.int .u8 203,.int .u8 51,.int .u8 50,.int .u8 55,d32,.int .u8 0,.int .u8 0,.int .u8 0,.int .u8 0,.int .u8 0,.int .u8 0,.int .u8 0,.int .u8 0,.int .u8 0,.int .u8 0,.int .u8 0,.int .u8 0,.int .u8 0,.int .u8 0,.int .u8 0,.int .u8 0,.int .i64 0,.int .u8 0,.int .u8 0,.int .u8 0,.int .u8 0,.int .u8 0,.int .u8 0,.int .u8 0,.int .u8 0,.int .u8 0,.int .u8 0,.int .u8 0,.int .u8 0,.int .u8 0,.int .u8 0,.int .u8 0,.int .u8 0,.int .i64 0,.int .i64 1,.int .u8 212,.int .u8 176,.int .u8 34,.int .u8 8,.int .u8 199,.int .u8 130,.int .u8 64,.int .u8 222,.int .u8 244,.int .u8 198,.int .u8 108,.int .u8 174,.int .u8 39,.int .u8 223,.int .u8 121,.int .u8 73,.int .i64 1,.int .i64 1,.int .i64 2,.int .i64 0,.int .u8 0,.int .u8 0,.int .u8 0,.int .u8 0,.int .u8 0,.int .u8 0,.int .u8 0,.int .u8 0,.int .u8 0,.int .u8 0,.int .u8 0,.int .u8 0,.int .u8 0,.int .u8 0,.int .u8 0,.int .u8 0,.int .u8 230,.int .u8 240,.int .u8 96,.int .u8 101,.int .u8 135,.int .u8 232,.int .u8 118,.int .u8 218,.int .u8 211,.int .u8 161,.int .u8 20,.int .u8 24,.int .u8 203,.int .u8 51,.int .u8 50,.int .u8 55,.list [],.int .u8 0,.int .u8 0,.int .u8 0,.int .u8 0,.int .u8 0,.int .u8 0,.int .u8 0,.int .u8 0,.int .u8 0,.int .u8 0,.int .u8 0,.int .u8 0,.int .u8 0,.int .u8 0,.int .u8 0,.int .u8 0,.int .i64 0,.int .u8 0,.int .u8 0,.int .u8 0,.int .u8 0,.int .u8 0,.int .u8 0,.int .u8 0,.int .u8 0,.int .u8 0,.int .u8 0,.int .u8 0,.int .u8 0,.int .u8 0,.int .u8 0,.int .u8 0,.int .u8 0,.int .i64 0,.int .i64 1,.int .u8 255,.int .u8 158,.int .u8 217,.int .u8 47,.int .u8 201,.int .u8 238,.int .u8 56,.int .u8 117,.int .u8 34,.int .u8 53,.int .u8 171,.int .u8 11,.int .u8 245,.int .u8 167,.int .u8 191,.int .u8 201,d36,d0,.int .i64 1,.int .i64 1,.int .u8 184,.int .u8 177,.int .u8 109,.int .u8 183,.int .u8 161,.int .u8 81,.int .u8 87,.int .u8 1,.int .u8 94,.int .u8 79,.int .u8 249,.int .u8 154,.int .u8 69,.int .u8 89,.int .u8 250,.int .u8 173]
def d42:D:=.agg [.list [.int .i64 6],.int .i64 1,.int .i64 134217728,.int .i64 1,st [],.int .i64 0,.int .i64 0,st [],.list [],.int .i64 2,.int .i64 1,.int .i64 0,.int .i64 1,.int .i64 2,.int .i64 3,.int .i64 0,.int .u8 0,.int .u8 0,.int .u8 0,.int .u8 0,.int .u8 0,.int .u8 0,.int .u8 0,.int .u8 0,.int .u8 0,.int .u8 0,.int .u8 0,.int .u8 0,.int .u8 0,.int .u8 0,.int .u8 0,.int .u8 0,.int .u8 230,.int .u8 240,.int .u8 96,.int .u8 101,.int .u8 135,.int .u8 232,.int .u8 118,.int .u8 218,.int .u8 211,.int .u8 161,.int .u8 20,.int .u8 24,.int .u8 203,.int .u8 51,.int .u8 50,.int .u8 55,d32,.int .u8 0,.int .u8 0,.int .u8 0,.int .u8 0,.int .u8 0,.int .u8 0,.int .u8 0,.int .u8 0,.int .u8 0,.int .u8 0,.int .u8 0,.int .u8 0,.int .u8 0,.int .u8 0,.int .u8 0,.int .u8 0,.int .i64 0,.int .u8 0,.int .u8 0,.int .u8 0,.int .u8 0,.int .u8 0,.int .u8 0,.int .u8 0,.int .u8 0,.int .u8 0,.int .u8 0,.int .u8 0,.int .u8 0,.int .u8 0,.int .u8 0,.int .u8 0,.int .u8 0,.int .i64 0,.int .i64 1,.int .u8 212,.int .u8 176,.int .u8 34,.int .u8 8,.int .u8 199,.int .u8 130,.int .u8 64,.int .u8 222,.int .u8 244,.int .u8 198,.int .u8 108,.int .u8 174,.int .u8 39,.int .u8 223,.int .u8 121,.int .u8 73,.int .i64 1,.int .i64 1,.int .i64 2,.int .i64 0,.int .u8 0,.int .u8 0,.int .u8 0,.int .u8 0,.int .u8 0,.int .u8 0,.int .u8 0,.int .u8 0,.int .u8 0,.int .u8 0,.int .u8 0,.int .u8 0,.int .u8 0,.int .u8 0,.int .u8 0,.int .u8 0,.int .u8 230,.int .u8 240,.int .u8 96,.int .u8 101,.int .u8 135,.int .u8 232,.int .u8 118,.int .u8 218,.int .u8 211,.int .u8 161,.int .u8 20,.int .u8 24,.int .u8 203,.int .u8 51,.int .u8 50,.int .u8 55,.list [],.int .u8 0,.int .u8 0,.int .u8 0,.int .u8 0,.int .u8 0,.int .u8 0,.int .u8 0,.int .u8 0,.int .u8 0,.int .u8 0,.int .u8 0,.int .u8 0,.int .u8 0,.int .u8 0,.int .u8 0,.int .u8 0,.int .i64 0,.int .u8 0,.int .u8 0,.int .u8 0,.int .u8 0,.int .u8 0,.int .u8 0,.int .u8 0,.int .u8 0,.int .u8 0,.int .u8 0,.int .u8 0,.int .u8 0,.int .u8 0,.int .u8 0,.int .u8 0,.int .u8 0,.int .i64 0,.int .i64 1,.int .u8 255,.int .u8 158,.int .u8 217,.int .u8 47,.int .u8 201,.int .u8 238,.int .u8 56,.int .u8 117,.int .u8 34,.int .u8 53,.int .u8 171,.int .u8 11,.int .u8 245,.int .u8 167,.int .u8 191,.int .u8 201,d36,d0,.int .i64 1,.int .i64 1,.int .u8 185,.int .u8 177,.int .u8 109,.int .u8 183,.int .u8 161,.int .u8 81,.int .u8 87,.int .u8 1,.int .u8 94,.int .u8 79,.int .u8 249,.int .u8 154,.int .u8 69,.int .u8 89,.int .u8 250,.int .u8 173]
def d43:D:=.list (isD .u8 [14,38,22,2,128,128,128,128,1,4,2,0,2,12,2,0,0,0,4,0,0,244,1,16,2,4,6,0,0,0,2,4,14,0,0,0,0,0,0,0,0,0,0,0,0,0,0,0,0,230,240,96,101,135,232,118,218,211,161,20,24,203,51,50,55,0,0,0,0,0,0,0,0,0,0,0,0,0,0,0,0,0,0,0,0,0,0,0,0,0,0,0,0,0,0,0,0,255,54,104,145,241,43,32,126,6,102,87,7,3,137,50,174,169,114,199,204,127,70,191,247,185,250,235,213,244,228,231,135,212,176,34,8,199,130,64,222,244,198,108,174,39,223,121,73,178,1,14,2,2,4,0,0,0,2,10,0,0,0,0,0,0,0,0,0,0,0,0,0,0,0,0,230,240,96,101,135,232,118,218,211,161,20,24,203,51,50,55,0,0,0,0,0,0,0,0,0,0,0,0,0,0,0,0,0,0,0,0,0,0,0,0,0,0,0,0,0,0,0,0,255,158,217,47,201,238,56,117,34,53,171,11,245,167,191,201,8,6,2,2,2,6,4,2,2,32,184,177,109,183,161,81,87,1,94,79,249,154,69,89,250,173,172,1,20,2,0,1,0,0,4,0,0,0,0,2,112,10,2,98,4,2,4,34,24,4,0,0,130,128,128,1,2,2,2,10,2,18,0,0,0,30,20,2,2,2,0,0,130,128,128,1,2,2,10,0,0,30,20,4,2,2,0,0,130,128,128,1,2,2,18,0,0,2,54,169,231,241,201,91,130,255,185,151,67,224,197,196,206,149])
-- (antiquary/segment.builder).flat 2323
def E0:Ent:=⟨115,[.agg [.d (.int .i64 1),.d (.int .i64 1),.nil,.sl 0 9 0 2 2 false,.d (.int .i64 1),.d (.int .i64 0),.nil,.d (.int .i64 0),.nil,.nil,.nil,.d (.int .i64 0),.d (.int .i64 0),.d (.int .i64 0),.d (.int .i64 0),.d (.int .i64 0),.nil,.nil,.nil,.nil,.sl 1 1 0 2 2 true]],[.live (.dat 9 [d9,d10] true),.live (.dat 1 [.int .i64 0,.int .i64 0] true)],.tup [.d (d33),.d (.int .i64 0)]⟩
-- antiquary/segment.Build 2852
def E1:Ent:=⟨12,[.agg [.d (.int .i64 1),.d (.int .i64 1),.nil],.d (.int .i64 1),.d (.int .i64 0),.sl 0 9 0 2 2 true],[.live (.dat 9 [d9,d10] true)],.tup [.d (d33),.d (.int .i64 0)]⟩
-- antiquary/hash.compress 14152
def E2:Ent:=⟨251,[.d (d3),.sl 0 1 8 64 64 true],[.live (.box ((isD .u32 [1779033703,3144134277,1013904242,2773480762,1359893119,2600822924,528734635,1541459225]).map .d ++ (isD .u8 [13,8,6,2,2,0,128,0,0,0,0,0,0,0,0,0,0,0,0,0,0,0,0,0,0,0,0,0,0,0,0,0,0,0,0,0,0,0,0,0,0,0,0,0,0,0,0,0,0,0,0,0,0,0,0,0,0,0,0,0,0,0,0,48]).map .d ++ [.d (.int .u64 64)]) true)],.d (.agg (isD .u32 [3874512997,2280158938,3550549016,3409130039,1607333071,341857649,291998017,3450060284]))⟩
-- antiquary/hash.Of 2967
def E3:Ent:=⟨78,[.d (.int .i64 13),.sl 0 1 0 1 1 true],[.live (.dat 1 [st [6,2,2,0]] true)],.d (d15)⟩
-- antiquary/attr.Digest 339
def E4:Ent:=⟨43,[.agg [.d (.int .i64 1),.d (.int .i64 1),.nil]],[],.d (d15)⟩
-- antiquary/hash.compress 14152
def E5:Ent:=⟨251,[.d (d3),.sl 0 1 8 64 64 true],[.live (.box ((isD .u32 [1779033703,3144134277,1013904242,2773480762,1359893119,2600822924,528734635,1541459225]).map .d ++ (isD .u8 [14,30,20,2,2,2,0,0,130,128,128,1,2,2,10,0,0,128,0,0,0,0,0,0,0,0,0,0,0,0,0,0,0,0,0,0,0,0,0,0,0,0,0,0,0,0,0,0,0,0,0,0,0,0,0,0,0,0,0,0,0,0,0,136]).map .d ++ [.d (.int .u64 64)]) true)],.d (.agg (isD .u32 [2419430739,1713599971,2658923999,2646955930,3569197060,168689261,4027951403,141601783]))⟩
-- antiquary/hash.Of 2714
def E6:Ent:=⟨78,[.d (.int .i64 14),.sl 0 1 0 1 1 true],[.live (.dat 1 [st [20,2,2,2,0,0,130,128,128,1,2,2,10,0,0]] true)],.d (.agg (isD .u8 [144,53,149,83,102,35,117,227,158,123,245,223,157,197,87,154]))⟩
-- antiquary/hash.compress 14152
def E7:Ent:=⟨251,[.d (d3),.sl 0 1 8 64 64 true],[.live (.box ((isD .u32 [1779033703,3144134277,1013904242,2773480762,1359893119,2600822924,528734635,1541459225]).map .d ++ (isD .u8 [14,30,20,4,2,2,0,0,130,128,128,1,2,2,18,0,0,128,0,0,0,0,0,0,0,0,0,0,0,0,0,0,0,0,0,0,0,0,0,0,0,0,0,0,0,0,0,0,0,0,0,0,0,0,0,0,0,0,0,0,0,0,0,136]).map .d ++ [.d (.int .u64 64)]) true)],.d (.agg (isD .u32 [363100642,1638140739,869824406,1105913352,1175910438,664062284,388530322,2909800034]))⟩
-- antiquary/hash.Of 2714
def E8:Ent:=⟨78,[.d (.int .i64 14),.sl 0 1 0 1 1 true],[.live (.dat 1 [st [20,4,2,2,0,0,130,128,128,1,2,2,18,0,0]] true)],.d (.agg (isD .u8 [21,164,121,226,97,164,11,67,51,216,119,150,65,234,230,8]))⟩
-- antiquary/hash.compress 14152
def E9:Ent:=⟨251,[.d (d3),.sl 0 1 8 64 64 true],[.live (.box ((isD .u32 [1779033703,3144134277,1013904242,2773480762,1359893119,2600822924,528734635,1541459225]).map .d ++ (isD .u8 [26,32,144,53,149,83,102,35,117,227,158,123,245,223,157,197,87,154,32,21,164,121,226,97,164,11,67,51,216,119,150,65,234,230,8,128,0,0,0,0,0,0,0,0,0,0,0,0,0,0,0,0,0,0,0,0,0,0,0,0,0,0,1,24]).map .d ++ [.d (.int .u64 64)]) true)],.d (.agg (isD .u32 [2367178732,2950813890,1775923591,852952881,1716217951,3040248125,27857484,235596495]))⟩
-- antiquary/hash.Of 2450
def E10:Ent:=⟨78,[.d (.int .i64 26),.sl 0 1 0 2 2 false],[.live (.dat 1 [st [144,53,149,83,102,35,117,227,158,123,245,223,157,197,87,154],st [21,164,121,226,97,164,11,67,51,216,119,150,65,234,230,8]] true)],.d (d16)⟩
-- antiquary/part.below 3236
def E11:Ent:=⟨212,[.d (.agg [.int .i64 2,.list [.int .i64 5],.list [.int .i64 9],.list [],.int .i64 0,.int .i64 0,.int .i64 1048577,.int .i64 1,.int .i64 1,.list [],.list [],d30])],[],.d (d16)⟩
-- antiquary/zone.Encode 1247
def E12:Ent:=⟨355,[.d (d11)],[],.d (d28)⟩
-- antiquary/hash.compress 14152
def E13:Ent:=⟨251,[.d (d3),.sl 0 1 8 64 64 true],[.live (.box ((isD .u32 [1779033703,3144134277,1013904242,2773480762,1359893119,2600822924,528734635,1541459225]).map .d ++ (isD .u8 [25,34,24,4,0,0,130,128,128,1,2,2,2,10,2,18,0,0,0,32,141,24,71,236,175,225,216,194,105,218,113,135,50,215,7,49,128,0,0,0,0,0,0,0,0,0,0,0,0,0,0,0,0,0,0,0,0,0,0,0,0,0,1,32]).map .d ++ [.d (.int .u64 64)]) true)],.d (.agg (isD .u32 [484359440,3738832880,3186440826,1625691631,521110411,662072787,4126380880,2691746770]))⟩
-- antiquary/hash.Of 2427
def E14:Ent:=⟨78,[.d (.int .i64 25),.sl 0 1 0 2 2 true],[.live (.dat 1 [st [24,4,0,0,130,128,128,1,2,2,2,10,2,18,0,0,0],st [141,24,71,236,175,225,216,194,105,218,113,135,50,215,7,49]] true)],.d (.agg (isD .u8 [28,222,189,16,222,218,15,240,189,237,58,122,96,230,21,239]))⟩
-- antiquary/hash.compress 14152
def E15:Ent:=⟨251,[.d (d3),.sl 0 1 8 64 64 true],[.live (.box ((isD .u32 [1779033703,3144134277,1013904242,2773480762,1359893119,2600822924,528734635,1541459225]).map .d ++ (isD .u8 [32,128,0,0,0,0,0,0,0,0,0,0,0,0,0,0,0,0,0,0,0,0,0,0,0,0,0,0,0,0,0,0,0,0,0,0,0,0,0,0,0,0,0,0,0,0,0,0,0,0,0,0,0,0,0,0,0,0,0,0,0,0,0,8]).map .d ++ [.d (.int .u64 64)]) true)],.d (.agg (isD .u32 [917104625,3378217727,3113698272,3318009493,3627850307,179067384,1324600314,3054784616]))⟩
-- antiquary/hash.Of 2932
def E16:Ent:=⟨78,[.d (.int .i64 32),.nil],[],.d (.agg (isD .u8 [54,169,231,241,201,91,130,255,185,151,67,224,197,196,206,149]))⟩
-- antiquary/hash.compress 14152
def E17:Ent:=⟨251,[.d (d3),.sl 0 1 8 64 64 true],[.live (.box ((isD .u32 [1779033703,3144134277,1013904242,2773480762,1359893119,2600822924,528734635,1541459225]).map .d ++ (isD .u8 [34,32,230,240,96,101,135,232,118,218,211,161,20,24,203,51,50,55,8,6,2,0,0,32,28,222,189,16,222,218,15,240,189,237,58,122,96,230,21,239,32,54,169,231,241,201,91,130,255,185,151,67,224,197,196,206,149,128,0,0,0,0,0,0]).map .d ++ [.d (.int .u64 64)]) true)],.d (d4)⟩
-- antiquary/hash.compress 14152
def E18:Ent:=⟨251,[.d (d4),.sl 0 1 8 64 64 true],[.live (.box ((isD .u32 [1569161965,104582856,1171928204,3250651559,1755105926,1583198731,2161866400,3347752840]).map .d ++ (isD .u8 [0,0,0,0,0,0,0,0,0,0,0,0,0,0,0,0,0,0,0,0,0,0,0,0,0,0,0,0,0,0,0,0,0,0,0,0,0,0,0,0,0,0,0,0,0,0,0,0,0,0,0,0,0,0,0,0,0,0,0,0,0,0,1,200]).map .d ++ [.d (.int .u64 128)]) true)],.d (.agg (isD .u32 [4281755793,4046135422,107370247,59323054,1869348589,1652129722,1422056233,1926378200]))⟩
-- antiquary/hash.Of 3775
def E19:Ent:=⟨78,[.d (.int .i64 290),.sl 0 1 0 4 4 false],[.live (.dat 1 [st [230,240,96,101,135,232,118,218,211,161,20,24,203,51,50,55],st [6,2,0,0],st [28,222,189,16,222,218,15,240,189,237,58,122,96,230,21,239],st [54,169,231,241,201,91,130,255,185,151,67,224,197,196,206,149]] true)],.d (d17)⟩
-- antiquary/hash.compress 14152
def E20:Ent:=⟨251,[.d (d3),.sl 0 1 8 64 64 true],[.live (.box ((isD .u32 [1779033703,3144134277,1013904242,2773480762,1359893119,2600822924,528734635,1541459225]).map .d ++ (isD .u8 [35,6,4,0,0,128,0,0,0,0,0,0,0,0,0,0,0,0,0,0,0,0,0,0,0,0,0,0,0,0,0,0,0,0,0,0,0,0,0,0,0,0,0,0,0,0,0,0,0,0,0,0,0,0,0,0,0,0,0,0,0,0,0,40]).map .d ++ [.d (.int .u64 64)]) true)],.d (.agg (isD .u32 [1644062455,1250179170,3424773157,1810575262,1911324014,2929078785,208698819,954536083]))⟩
-- antiquary/hash.Of 2990
def E21:Ent:=⟨78,[.d (.int .i64 291),.sl 0 1 0 1 1 true],[.live (.dat 1 [st [4,0,0]] true)],.d (d18)⟩
-- antiquary/hash.compress 14152
def E22:Ent:=⟨251,[.d (d3),.sl 0 1 8 64 64 true],[.live (.box ((isD .u32 [1779033703,3144134277,1013904242,2773480762,1359893119,2600822924,528734635,1541459225]).map .d ++ (isD .u8 [35,6,4,2,0,128,0,0,0,0,0,0,0,0,0,0,0,0,0,0,0,0,0,0,0,0,0,0,0,0,0,0,0,0,0,0,0,0,0,0,0,0,0,0,0,0,0,0,0,0,0,0,0,0,0,0,0,0,0,0,0,0,0,40]).map .d ++ [.d (.int .u64 64)]) true)],.d (.agg (isD .u32 [3270383380,249639918,3204944064,2387711465,1802513611,4135850167,2633204586,4288654240]))⟩
-- antiquary/hash.Of 2990
def E23:Ent:=⟨78,[.d (.int .i64 291),.sl 0 1 0 1 1 true],[.live (.dat 1 [st [4,2,0]] true)],.d (d19)⟩
-- antiquary/hash.compress 14152
def E24:Ent:=⟨251,[.d (d3),.sl 0 1 8 64 64 true],[.live (.box ((isD .u32 [1779033703,3144134277,1013904242,2773480762,1359893119,2600822924,528734635,1541459225]).map .d ++ (isD .u8 [31,32,97,254,102,247,74,132,56,98,204,33,228,37,107,235,47,158,32,194,238,23,20,14,225,51,238,191,7,144,192,142,81,149,233,128,0,0,0,0,0,0,0,0,0,0,0,0,0,0,0,0,0,0,0,0,0,0,0,0,0,0,1,24]).map .d ++ [.d (.int .u64 64)]) true)],.d (.agg (isD .u32 [2842871756,2135343095,3120229333,4108642183,4051515862,2586655308,3944104165,4269761670]))⟩
-- antiquary/hash.Of 2450
def E25:Ent:=⟨78,[.d (.int .i64 31),.sl 0 1 0 2 2 true],[.live (.dat 1 [st [97,254,102,247,74,132,56,98,204,33,228,37,107,235,47,158],st [194,238,23,20,14,225,51,238,191,7,144,192,142,81,149,233]] true)],.d (d20)⟩
-- antiquary/segment.LifeRoot 783
def E26:Ent:=⟨119,[.d (d33)],[],.d (d20)⟩
-- antiquary/hash.compress 14152
def E27:Ent:=⟨251,[.d (d3),.sl 0 1 8 64 64 true],[.live (.box ((isD .u32 [1779033703,3144134277,1013904242,2773480762,1359893119,2600822924,528734635,1541459225]).map .d ++ (isD .u8 [105,16,14,2,4,6,0,0,0,4,32,0,0,0,0,0,0,0,0,0,0,0,0,0,0,0,0,32,230,240,96,101,135,232,118,218,211,161,20,24,203,51,50,55,32,0,0,0,0,0,0,0,0,0,0,0,0,0,0,0,0,32,0,0]).map .d ++ [.d (.int .u64 64)]) true)],.d (d5)⟩
-- antiquary/hash.compress 14152
def E28:Ent:=⟨251,[.d (d5),.sl 0 1 8 64 64 true],[.live (.box ((isD .u32 [582980761,1061513459,3671546433,346545119,1713621190,1531184514,417361061,2390449417]).map .d ++ (isD .u8 [0,0,0,0,0,0,0,0,0,0,0,0,0,0,32,255,54,104,145,241,43,32,126,6,102,87,7,3,137,50,174,32,169,114,199,204,127,70,191,247,185,250,235,213,244,228,231,135,128,0,0,0,0,0,0,0,0,0,0,0,0,0,3,128]).map .d ++ [.d (.int .u64 128)]) true)],.d (.agg (isD .u32 [1205877401,448162545,761858156,693244223,4245047182,2729923146,1919208071,756264852]))⟩
-- antiquary/hash.Of 2960
def E29:Ent:=⟨78,[.d (.int .i64 361),.sl 0 1 0 7 7 false],[.live (.dat 1 [st [14,2,4,6,0,0,0,4],st [0,0,0,0,0,0,0,0,0,0,0,0,0,0,0,0],st [230,240,96,101,135,232,118,218,211,161,20,24,203,51,50,55],st [0,0,0,0,0,0,0,0,0,0,0,0,0,0,0,0],st [0,0,0,0,0,0,0,0,0,0,0,0,0,0,0,0],st [255,54,104,145,241,43,32,126,6,102,87,7,3,137,50,174],st [169,114,199,204,127,70,191,247,185,250,235,213,244,228,231,135]] true)],.d (d21)⟩
-- antiquary/daybook.text 953
def E30:Ent:=⟨121,[.agg [.d (.int .i64 1),.d (.int .i64 2),.d (.int .i64 3),.d (.int .i64 0),.d (.int .u8 0),.d (.int .u8 0),.d (.int .u8 0),.d (.int .u8 0),.d (.int .u8 0),.d (.int .u8 0),.d (.int .u8 0),.d (.int .u8 0),.d (.int .u8 0),.d (.int .u8 0),.d (.int .u8 0),.d (.int .u8 0),.d (.int .u8 0),.d (.int .u8 0),.d (.int .u8 0),.d (.int .u8 0),.d (.int .u8 230),.d (.int .u8 240),.d (.int .u8 96),.d (.int .u8 101),.d (.int .u8 135),.d (.int .u8 232),.d (.int .u8 118),.d (.int .u8 218),.d (.int .u8 211),.d (.int .u8 161),.d (.int .u8 20),.d (.int .u8 24),.d (.int .u8 203),.d (.int .u8 51),.d (.int .u8 50),.d (.int .u8 55),.sl 0 33 0 1 1 false,.d (.int .u8 0),.d (.int .u8 0),.d (.int .u8 0),.d (.int .u8 0),.d (.int .u8 0),.d (.int .u8 0),.d (.int .u8 0),.d (.int .u8 0),.d (.int .u8 0),.d (.int .u8 0),.d (.int .u8 0),.d (.int .u8 0),.d (.int .u8 0),.d (.int .u8 0),.d (.int .u8 0),.d (.int .u8 0),.d (.int .i64 0),.d (.int .u8 0),.d (.int .u8 0),.d (.int .u8 0),.d (.int .u8 0),.d (.int .u8 0),.d (.int .u8 0),.d (.int .u8 0),.d (.int .u8 0),.d (.int .u8 0),.d (.int .u8 0),.d (.int .u8 0),.d (.int .u8 0),.d (.int .u8 0),.d (.int .u8 0),.d (.int .u8 0),.d (.int .u8 0),.d (.int .i64 0),.d (.int .i64 1),.d (.int .u8 0),.d (.int .u8 0),.d (.int .u8 0),.d (.int .u8 0),.d (.int .u8 0),.d (.int .u8 0),.d (.int .u8 0),.d (.int .u8 0),.d (.int .u8 0),.d (.int .u8 0),.d (.int .u8 0),.d (.int .u8 0),.d (.int .u8 0),.d (.int .u8 0),.d (.int .u8 0),.d (.int .u8 0)]],[.live (.dat 33 [d31] true)],.d (st [71,224,58,153,26,182,106,241,45,105,8,108,41,82,17,63])⟩
-- antiquary/hash.compress 14152
def E31:Ent:=⟨251,[.d (d3),.sl 0 1 8 64 64 true],[.live (.box ((isD .u32 [1779033703,3144134277,1013904242,2773480762,1359893119,2600822924,528734635,1541459225]).map .d ++ (isD .u8 [106,2,107,32,71,224,58,153,26,182,106,241,45,105,8,108,41,82,17,63,2,107,128,0,0,0,0,0,0,0,0,0,0,0,0,0,0,0,0,0,0,0,0,0,0,0,0,0,0,0,0,0,0,0,0,0,0,0,0,0,0,0,0,176]).map .d ++ [.d (.int .u64 64)]) true)],.d (.agg (isD .u32 [3568312840,3347202270,4106644654,668957001,3472284274,3855088075,307669628,3445215264]))⟩
-- antiquary/hash.Of 2899
def E32:Ent:=⟨78,[.d (.int .i64 362),.sl 0 1 0 3 3 false],[.live (.dat 1 [st [107],st [71,224,58,153,26,182,106,241,45,105,8,108,41,82,17,63],st [107]] true)],.d (d22)⟩
-- antiquary/seal.Make 314
def E33:Ent:=⟨59,[.d (d1),.d (.int .i64 362),.sl 0 1 0 1 1 true],[.live (.dat 1 [st [71,224,58,153,26,182,106,241,45,105,8,108,41,82,17,63]] true)],.d (d22)⟩
-- antiquary/daybook.Seal 428
def E34:Ent:=⟨45,[.d (d1),.agg [.d (.int .i64 1),.d (.int .i64 2),.d (.int .i64 3),.d (.int .i64 0),.d (.int .u8 0),.d (.int .u8 0),.d (.int .u8 0),.d (.int .u8 0),.d (.int .u8 0),.d (.int .u8 0),.d (.int .u8 0),.d (.int .u8 0),.d (.int .u8 0),.d (.int .u8 0),.d (.int .u8 0),.d (.int .u8 0),.d (.int .u8 0),.d (.int .u8 0),.d (.int .u8 0),.d (.int .u8 0),.d (.int .u8 230),.d (.int .u8 240),.d (.int .u8 96),.d (.int .u8 101),.d (.int .u8 135),.d (.int .u8 232),.d (.int .u8 118),.d (.int .u8 218),.d (.int .u8 211),.d (.int .u8 161),.d (.int .u8 20),.d (.int .u8 24),.d (.int .u8 203),.d (.int .u8 51),.d (.int .u8 50),.d (.int .u8 55),.sl 0 33 0 1 1 false,.d (.int .u8 0),.d (.int .u8 0),.d (.int .u8 0),.d (.int .u8 0),.d (.int .u8 0),.d (.int .u8 0),.d (.int .u8 0),.d (.int .u8 0),.d (.int .u8 0),.d (.int .u8 0),.d (.int .u8 0),.d (.int .u8 0),.d (.int .u8 0),.d (.int .u8 0),.d (.int .u8 0),.d (.int .u8 0),.d (.int .i64 0),.d (.int .u8 0),.d (.int .u8 0),.d (.int .u8 0),.d (.int .u8 0),.d (.int .u8 0),.d (.int .u8 0),.d (.int .u8 0),.d (.int .u8 0),.d (.int .u8 0),.d (.int .u8 0),.d (.int .u8 0),.d (.int .u8 0),.d (.int .u8 0),.d (.int .u8 0),.d (.int .u8 0),.d (.int .u8 0),.d (.int .i64 0),.d (.int .i64 0),.d (.int .u8 0),.d (.int .u8 0),.d (.int .u8 0),.d (.int .u8 0),.d (.int .u8 0),.d (.int .u8 0),.d (.int .u8 0),.d (.int .u8 0),.d (.int .u8 0),.d (.int .u8 0),.d (.int .u8 0),.d (.int .u8 0),.d (.int .u8 0),.d (.int .u8 0),.d (.int .u8 0),.d (.int .u8 0)]],[.live (.dat 33 [d31] true)],.tup [.d (d39),.d (.int .i64 0)]⟩
-- antiquary/hash.compress 14152
def E35:Ent:=⟨251,[.d (d3),.sl 0 1 8 64 64 true],[.live (.box ((isD .u32 [1779033703,3144134277,1013904242,2773480762,1359893119,2600822924,528734635,1541459225]).map .d ++ (isD .u8 [105,14,12,2,2,4,0,0,0,32,0,0,0,0,0,0,0,0,0,0,0,0,0,0,0,0,32,230,240,96,101,135,232,118,218,211,161,20,24,203,51,50,55,32,0,0,0,0,0,0,0,0,0,0,0,0,0,0,0,0,32,0,0,0]).map .d ++ [.d (.int .u64 64)]) true)],.d (d6)⟩
-- antiquary/hash.compress 14152
def E36:Ent:=⟨251,[.d (d6),.sl 0 1 8 64 64 true],[.live (.box ((isD .u32 [1417747759,663169931,790029206,1119319165,2405829395,821273417,1726583669,2200309097]).map .d ++ (isD .u8 [0,0,0,0,0,0,0,0,0,0,0,0,0,128,0,0,0,0,0,0,0,0,0,0,0,0,0,0,0,0,0,0,0,0,0,0,0,0,0,0,0,0,0,0,0,0,0,0,0,0,0,0,0,0,0,0,0,0,0,0,0,0,2,104]).map .d ++ [.d (.int .u64 128)]) true)],.d (.agg (isD .u32 [2399645962,3344325449,1068174353,1251510216,953350285,3227070087,3880794341,74108101]))⟩
-- antiquary/hash.Of 3465
def E37:Ent:=⟨78,[.d (.int .i64 361),.sl 0 1 0 5 5 false],[.live (.dat 1 [st [12,2,2,4,0,0,0],st [0,0,0,0,0,0,0,0,0,0,0,0,0,0,0,0],st [230,240,96,101,135,232,118,218,211,161,20,24,203,51,50,55],st [0,0,0,0,0,0,0,0,0,0,0,0,0,0,0,0],st [0,0,0,0,0,0,0,0,0,0,0,0,0,0,0,0]] true)],.d (d23)⟩
-- antiquary/daybook.text 797
def E38:Ent:=⟨121,[.agg [.d (.int .i64 1),.d (.int .i64 1),.d (.int .i64 2),.d (.int .i64 0),.d (.int .u8 0),.d (.int .u8 0),.d (.int .u8 0),.d (.int .u8 0),.d (.int .u8 0),.d (.int .u8 0),.d (.int .u8 0),.d (.int .u8 0),.d (.int .u8 0),.d (.int .u8 0),.d (.int .u8 0),.d (.int .u8 0),.d (.int .u8 0),.d (.int .u8 0),.d (.int .u8 0),.d (.int .u8 0),.d (.int .u8 230),.d (.int .u8 240),.d (.int .u8 96),.d (.int .u8 101),.d (.int .u8 135),.d (.int .u8 232),.d (.int .u8 118),.d (.int .u8 218),.d (.int .u8 211),.d (.int .u8 161),.d (.int .u8 20),.d (.int .u8 24),.d (.int .u8 203),.d (.int .u8 51),.d (.int .u8 50),.d (.int .u8 55),.nil,.d (.int .u8 0),.d (.int .u8 0),.d (.int .u8 0),.d (.int .u8 0),.d (.int .u8 0),.d (.int .u8 0),.d (.int .u8 0),.d (.int .u8 0),.d (.int .u8 0),.d (.int .u8 0),.d (.int .u8 0),.d (.int .u8 0),.d (.int .u8 0),.d (.int .u8 0),.d (.int .u8 0),.d (.int .u8 0),.d (.int .i64 0),.d (.int .u8 0),.d (.int .u8 0),.d (.int .u8 0),.d (.int .u8 0),.d (.int .u8 0),.d (.int .u8 0),.d (.int .u8 0),.d (.int .u8 0),.d (.int .u8 0),.d (.int .u8 0),.d (.int .u8 0),.d (.int .u8 0),.d (.int .u8 0),.d (.int .u8 0),.d (.int .u8 0),.d (.int .u8 0),.d (.int .i64 0),.d (.int .i64 1),.d (.int .u8 0),.d (.int .u8 0),.d (.int .u8 0),.d (.int .u8 0),.d (.int .u8 0),.d (.int .u8 0),.d (.int .u8 0),.d (.int .u8 0),.d (.int .u8 0),.d (.int .u8 0),.d (.int .u8 0),.d (.int .u8 0),.d (.int .u8 0),.d (.int .u8 0),.d (.int .u8 0),.d (.int .u8 0)]],[],.d (st [143,7,177,10,199,86,91,73,63,171,12,17,74,152,135,200])⟩
-- antiquary/hash.compress 14152
def E39:Ent:=⟨251,[.d (d3),.sl 0 1 8 64 64 true],[.live (.box ((isD .u32 [1779033703,3144134277,1013904242,2773480762,1359893119,2600822924,528734635,1541459225]).map .d ++ (isD .u8 [106,2,107,32,143,7,177,10,199,86,91,73,63,171,12,17,74,152,135,200,2,107,128,0,0,0,0,0,0,0,0,0,0,0,0,0,0,0,0,0,0,0,0,0,0,0,0,0,0,0,0,0,0,0,0,0,0,0,0,0,0,0,0,176]).map .d ++ [.d (.int .u64 64)]) true)],.d (.agg (isD .u32 [4288600367,3387832437,573942539,4121411529,1074868768,4038696530,2709575276,2438743752]))⟩
-- antiquary/hash.Of 2899
def E40:Ent:=⟨78,[.d (.int .i64 362),.sl 0 1 0 3 3 false],[.live (.dat 1 [st [107],st [143,7,177,10,199,86,91,73,63,171,12,17,74,152,135,200],st [107]] true)],.d (d24)⟩
-- antiquary/seal.Make 314
def E41:Ent:=⟨59,[.d (d1),.d (.int .i64 362),.sl 0 1 0 1 1 true],[.live (.dat 1 [st [143,7,177,10,199,86,91,73,63,171,12,17,74,152,135,200]] true)],.d (d24)⟩
-- antiquary/daybook.Seal 380
def E42:Ent:=⟨45,[.d (d1),.agg [.d (.int .i64 1),.d (.int .i64 1),.d (.int .i64 2),.d (.int .i64 0),.d (.int .u8 0),.d (.int .u8 0),.d (.int .u8 0),.d (.int .u8 0),.d (.int .u8 0),.d (.int .u8 0),.d (.int .u8 0),.d (.int .u8 0),.d (.int .u8 0),.d (.int .u8 0),.d (.int .u8 0),.d (.int .u8 0),.d (.int .u8 0),.d (.int .u8 0),.d (.int .u8 0),.d (.int .u8 0),.d (.int .u8 230),.d (.int .u8 240),.d (.int .u8 96),.d (.int .u8 101),.d (.int .u8 135),.d (.int .u8 232),.d (.int .u8 118),.d (.int .u8 218),.d (.int .u8 211),.d (.int .u8 161),.d (.int .u8 20),.d (.int .u8 24),.d (.int .u8 203),.d (.int .u8 51),.d (.int .u8 50),.d (.int .u8 55),.nil,.d (.int .u8 0),.d (.int .u8 0),.d (.int .u8 0),.d (.int .u8 0),.d (.int .u8 0),.d (.int .u8 0),.d (.int .u8 0),.d (.int .u8 0),.d (.int .u8 0),.d (.int .u8 0),.d (.int .u8 0),.d (.int .u8 0),.d (.int .u8 0),.d (.int .u8 0),.d (.int .u8 0),.d (.int .u8 0),.d (.int .i64 0),.d (.int .u8 0),.d (.int .u8 0),.d (.int .u8 0),.d (.int .u8 0),.d (.int .u8 0),.d (.int .u8 0),.d (.int .u8 0),.d (.int .u8 0),.d (.int .u8 0),.d (.int .u8 0),.d (.int .u8 0),.d (.int .u8 0),.d (.int .u8 0),.d (.int .u8 0),.d (.int .u8 0),.d (.int .u8 0),.d (.int .i64 0),.d (.int .i64 0),.d (.int .u8 0),.d (.int .u8 0),.d (.int .u8 0),.d (.int .u8 0),.d (.int .u8 0),.d (.int .u8 0),.d (.int .u8 0),.d (.int .u8 0),.d (.int .u8 0),.d (.int .u8 0),.d (.int .u8 0),.d (.int .u8 0),.d (.int .u8 0),.d (.int .u8 0),.d (.int .u8 0),.d (.int .u8 0)]],[],.tup [.d (d38),.d (.int .i64 0)]⟩
-- antiquary/antiquarylaw39.roots 891
def E43:Ent:=⟨14,[.agg [.d (.int .i64 1),.d (.int .i64 1),.nil],.d (.int .i64 2),.d (.int .i64 3),.sl 0 17 0 1 1 true,.d (.int .i64 1),.d (.int .i64 2)],[.live (.dat 17 [d33] true)],.tup [.d (d39),.d (d38),.d (.bool true)]⟩
-- antiquary/zone.Bound 873
def E44:Ent:=⟨337,[.agg [.d (.int .i64 1),.d (.int .i64 1),.nil],.d (d11),.sl 0 1 0 1 1 true,.nil],[.live (.dat 1 [.int .i64 6] true)],.tup [.d (.int .i64 0),.d (.int .i64 0)]⟩
-- antiquary/tree.hit 333
def E45:Ent:=⟨388,[.agg [.d (.int .i64 1),.d (.int .i64 1),.nil],.d (d9),.d (.int .i64 0),.agg [.sl 0 1 0 1 1 true,.d (.int .i64 1),.d (.int .i64 134217728),.d (.int .i64 1),.d (st []),.d (.int .i64 0),.d (.int .i64 0),.d (st []),.nil,.d (.int .i64 2),.d (.int .i64 1),.d (.int .i64 0)]],[.live (.dat 1 [.int .i64 6] true)],.tup [.d (.agg [.int .i64 1,.int .i64 1,.int .i64 1]),.d (.bool true)]⟩
-- antiquary/best.Put 565
def E46:Ent:=⟨389,[.nil,.d (.int .i64 1),.d (.agg [.int .i64 1,.int .i64 1,.int .i64 1])],[],.d (d0)⟩
-- antiquary/tree.hit 333
def E47:Ent:=⟨388,[.agg [.d (.int .i64 1),.d (.int .i64 1),.nil],.d (d10),.d (.int .i64 0),.agg [.sl 0 1 0 1 1 true,.d (.int .i64 1),.d (.int .i64 134217728),.d (.int .i64 1),.d (st []),.d (.int .i64 0),.d (.int .i64 0),.d (st []),.nil,.d (.int .i64 2),.d (.int .i64 1),.d (.int .i64 0)]],[.live (.dat 1 [.int .i64 6] true)],.tup [.d (.agg [.int .i64 2,.int .i64 1,.int .i64 3]),.d (.bool true)]⟩
-- antiquary/best.least[antiquary/api.Hit] 695
def E48:Ent:=⟨383,[.agg [.fn 418 [],.fn 419 []],.sl 0 3 0 2 2 false,.d (.int .i64 1)],[.live (.dat 3 [.agg [.int .i64 1,.int .i64 1,.int .i64 1],.agg [.int .i64 2,.int .i64 1,.int .i64 3]] true)],.d (d0)⟩
-- antiquary/proof.Make 2976
def E49:Ent:=⟨56,[.agg [.d (.int .i64 1),.d (.int .i64 1),.nil],.d (d33),.agg [.sl 0 1 0 1 1 true,.d (.int .i64 1),.d (.int .i64 134217728),.d (.int .i64 1),.d (st []),.d (.int .i64 0),.d (.int .i64 0),.d (st []),.nil,.d (.int .i64 2),.d (.int .i64 1),.d (.int .i64 0)]],[.live (.dat 1 [.int .i64 6] true)],.d (d35)⟩
-- antiquary/zone.Encode 1247
def E50:Ent:=⟨355,[.agg [.d (.int .i64 2),.d (.list [.int .i64 5]),.d (.list [.int .i64 9]),.nil,.d (.int .i64 0),.d (.int .i64 0),.d (.int .i64 1048577),.d (.int .i64 1),.d (.int .i64 1),.nil]],[],.d (d28)⟩
-- slices.Equal[[]byte,byte] 443
def E51:Ent:=⟨512,[.d (d28),.d (d28)],[],.d (.bool true)⟩
-- antiquary/part.Check 2236
def E52:Ent:=⟨331,[.agg [.d (.int .i64 1),.d (.int .i64 1),.nil],.d (.list []),.d (d34)],[],.d (.bool true)⟩
-- antiquary/part.under 3202
def E53:Ent:=⟨320,[.d (.int .i64 26),.fn 391 [.fp [.d (d30)]]],[],.d (d16)⟩
-- antiquary/merkle.CheckMany 670
def E54:Ent:=⟨334,[.d (.int .i64 2),.sl 0 1 0 2 2 false,.sl 1 16 0 2 2 false,.d (.list []),.d (d20)],[.live (.dat 1 [.int .i64 0,.int .i64 1] true),.live (.dat 16 [d18,d19] true)],.d (.bool true)⟩
-- antiquary/proof.hits 816
def E55:Ent:=⟨220,[.agg [.d (.int .i64 1),.d (.int .i64 1),.nil],.agg [.sl 0 1 0 1 1 true,.d (.int .i64 1),.d (.int .i64 134217728),.d (.int .i64 1),.d (st []),.d (.int .i64 0),.d (.int .i64 0),.d (st []),.nil,.d (.int .i64 2),.d (.int .i64 1),.d (.int .i64 0)],.mp 1,.d (.list [.int .i64 0,.int .i64 1])],[.live (.dat 1 [.int .i64 6] true),.live (.map [(.int .i64 0,.d (d12)),(.int .i64 1,.d (d13))] 2 true)],.d (d0)⟩
-- antiquary/proof.Check 2272
def E56:Ent:=⟨135,[.agg [.d (.int .i64 1),.d (.int .i64 1),.nil],.d (d31),.agg [.sl 0 1 0 1 1 true,.d (.int .i64 1),.d (.int .i64 134217728),.d (.int .i64 1),.d (st []),.d (.int .i64 0),.d (.int .i64 0),.d (st []),.nil,.d (.int .i64 2),.d (.int .i64 1),.d (.int .i64 0)],.d (d35)],[.live (.dat 1 [.int .i64 6] true)],.tup [.d (d2),.d (.int .i64 0)]⟩
-- antiquary/answer.EncodeQuery 1328
def E57:Ent:=⟨8,[.agg [.sl 0 1 0 1 1 true,.d (.int .i64 1),.d (.int .i64 134217728),.d (.int .i64 1),.d (st []),.d (.int .i64 0),.d (.int .i64 0),.d (st []),.nil,.d (.int .i64 2),.d (.int .i64 1),.d (.int .i64 0)]],[.live (.dat 1 [.int .i64 6] true)],.d (d29)⟩
-- antiquary/daybook.Name 934
def E58:Ent:=⟨77,[.d (d39)],[],.d (d21)⟩
-- antiquary/daybook.Name 778
def E59:Ent:=⟨77,[.d (d38)],[],.d (d23)⟩
-- antiquary/best.Encode 355
def E60:Ent:=⟨69,[.d (d0)],[],.d (.list (isD .u8 [6,2,2,2]))⟩
-- antiquary/proof.Encode 6341
def E61:Ent:=⟨76,[.d (d35)],[],.d (d37)⟩
-- antiquary/hash.compress 14152
def E62:Ent:=⟨251,[.d (d3),.sl 0 1 8 64 64 true],[.live (.box ((isD .u32 [1779033703,3144134277,1013904242,2773480762,1359893119,2600822924,528734635,1541459225]).map .d ++ (isD .u8 [136,38,22,2,128,128,128,128,1,4,2,0,2,12,2,0,0,0,4,0,0,32,71,224,58,153,26,182,106,241,45,105,8,108,41,82,17,63,32,143,7,177,10,199,86,91,73,63,171,12,17,74,152,135,200,8,6,2,2,2,6,4,2,2]).map .d ++ [.d (.int .u64 64)]) true)],.d (d7)⟩
-- antiquary/hash.compress 14152
def E63:Ent:=⟨251,[.d (d7),.sl 0 1 8 64 64 true],[.live (.box ((isD .u32 [1894843186,1475804868,4200092944,2031445016,3393160670,753739646,549134068,1762755663]).map .d ++ (isD .u8 [172,1,20,2,0,1,0,0,4,0,0,0,0,2,112,10,2,98,4,2,4,34,24,4,0,0,130,128,128,1,2,2,2,10,2,18,0,0,0,30,20,2,2,2,0,0,130,128,128,1,2,2,10,0,0,30,20,4,2,2,0,0,130,128]).map .d ++ [.d (.int .u64 128)]) true)],.d (d8)⟩
-- antiquary/hash.compress 14152
def E64:Ent:=⟨251,[.d (d8),.sl 0 1 8 64 64 true],[.live (.box ((isD .u32 [2750649656,4117777589,4044077731,2031330884,1988561571,3670547071,4005320654,3983558703]).map .d ++ (isD .u8 [128,1,2,2,18,0,0,2,54,169,231,241,201,91,130,255,185,151,67,224,197,196,206,149,128,0,0,0,0,0,0,0,0,0,0,0,0,0,0,0,0,0,0,0,0,0,0,0,0,0,0,0,0,0,0,0,0,0,0,0,0,0,4,192]).map .d ++ [.d (.int .u64 192)]) true)],.d (.agg (isD .u32 [3425883409,2007624408,345522567,2868328739,4164525092,618020437,2362938659,1842429840]))⟩
-- antiquary/hash.Of 3393
def E65:Ent:=⟨78,[.d (.int .i64 392),.sl 0 1 0 6 6 false],[.live (.dat 1 [st [22,2,128,128,128,128,1,4,2,0,2,12,2,0,0,0,4,0,0],st [71,224,58,153,26,182,106,241,45,105,8,108,41,82,17,63],st [143,7,177,10,199,86,91,73,63,171,12,17,74,152,135,200],st [6,2,2,2],st [4,2,2],st [20,2,0,1,0,0,4,0,0,0,0,2,112,10,2,98,4,2,4,34,24,4,0,0,130,128,128,1,2,2,2,10,2,18,0,0,0,30,20,2,2,2,0,0,130,128,128,1,2,2,10,0,0,30,20,4,2,2,0,0,130,128,128,1,2,2,18,0,0,2,54,169,231,241,201,91,130,255,185,151,67,224,197,196,206,149]] true)],.d (d25)⟩
-- antiquary/answer.Name 334
def E66:Ent:=⟨21,[.agg [.sl 0 1 0 1 1 true,.d (.int .i64 1),.d (.int .i64 134217728),.d (.int .i64 1),.d (st []),.d (.int .i64 0),.d (.int .i64 0),.d (st []),.nil,.d (.int .i64 2),.d (.int .i64 1),.d (.int .i64 0),.d (.int .i64 1),.d (.int .i64 2),.d (.int .i64 3),.d (.int .i64 0),.d (.int .u8 0),.d (.int .u8 0),.d (.int .u8 0),.d (.int .u8 0),.d (.int .u8 0),.d (.int .u8 0),.d (.int .u8 0),.d (.int .u8 0),.d (.int .u8 0),.d (.int .u8 0),.d (.int .u8 0),.d (.int .u8 0),.d (.int .u8 0),.d (.int .u8 0),.d (.int .u8 0),.d (.int .u8 0),.d (.int .u8 230),.d (.int .u8 240),.d (.int .u8 96),.d (.int .u8 101),.d (.int .u8 135),.d (.int .u8 232),.d (.int .u8 118),.d (.int .u8 218),.d (.int .u8 211),.d (.int .u8 161),.d (.int .u8 20),.d (.int .u8 24),.d (.int .u8 203),.d (.int .u8 51),.d (.int .u8 50),.d (.int .u8 55),.d (d32),.d (.int .u8 0),.d (.int .u8 0),.d (.int .u8 0),.d (.int .u8 0),.d (.int .u8 0),.d (.int .u8 0),.d (.int .u8 0),.d (.int .u8 0),.d (.int .u8 0),.d (.int .u8 0),.d (.int .u8 0),.d (.int .u8 0),.d (.int .u8 0),.d (.int .u8 0),.d (.int .u8 0),.d (.int .u8 0),.d (.int .i64 0),.d (.int .u8 0),.d (.int .u8 0),.d (.int .u8 0),.d (.int .u8 0),.d (.int .u8 0),.d (.int .u8 0),.d (.int .u8 0),.d (.int .u8 0),.d (.int .u8 0),.d (.int .u8 0),.d (.int .u8 0),.d (.int .u8 0),.d (.int .u8 0),.d (.int .u8 0),.d (.int .u8 0),.d (.int .u8 0),.d (.int .i64 0),.d (.int .i64 1),.d (.int .u8 212),.d (.int .u8 176),.d (.int .u8 34),.d (.int .u8 8),.d (.int .u8 199),.d (.int .u8 130),.d (.int .u8 64),.d (.int .u8 222),.d (.int .u8 244),.d (.int .u8 198),.d (.int .u8 108),.d (.int .u8 174),.d (.int .u8 39),.d (.int .u8 223),.d (.int .u8 121),.d (.int .u8 73),.d (.int .i64 1),.d (.int .i64 1),.d (.int .i64 2),.d (.int .i64 0),.d (.int .u8 0),.d (.int .u8 0),.d (.int .u8 0),.d (.int .u8 0),.d (.int .u8 0),.d (.int .u8 0),.d (.int .u8 0),.d (.int .u8 0),.d (.int .u8 0),.d (.int .u8 0),.d (.int .u8 0),.d (.int .u8 0),.d (.int .u8 0),.d (.int .u8 0),.d (.int .u8 0),.d (.int .u8 0),.d (.int .u8 230),.d (.int .u8 240),.d (.int .u8 96),.d (.int .u8 101),.d (.int .u8 135),.d (.int .u8 232),.d (.int .u8 118),.d (.int .u8 218),.d (.int .u8 211),.d (.int .u8 161),.d (.int .u8 20),.d (.int .u8 24),.d (.int .u8 203),.d (.int .u8 51),.d (.int .u8 50),.d (.int .u8 55),.d (.list []),.d (.int .u8 0),.d (.int .u8 0),.d (.int .u8 0),.d (.int .u8 0),.d (.int .u8 0),.d (.int .u8 0),.d (.int .u8 0),.d (.int .u8 0),.d (.int .u8 0),.d (.int .u8 0),.d (.int .u8 0),.d (.int .u8 0),.d (.int .u8 0),.d (.int .u8 0),.d (.int .u8 0),.d (.int .u8 0),.d (.int .i64 0),.d (.int .u8 0),.d (.int .u8 0),.d (.int .u8 0),.d (.int .u8 0),.d (.int .u8 0),.d (.int .u8 0),.d (.int .u8 0),.d (.int .u8 0),.d (.int .u8 0),.d (.int .u8 0),.d (.int .u8 0),.d (.int .u8 0),.d (.int .u8 0),.d (.int .u8 0),.d (.int .u8 0),.d (.int .u8 0),.d (.int .i64 0),.d (.int .i64 1),.d (.int .u8 255),.d (.int .u8 158),.d (.int .u8 217),.d (.int .u8 47),.d (.int .u8 201),.d (.int .u8 238),.d (.int .u8 56),.d (.int .u8 117),.d (.int .u8 34),.d (.int .u8 53),.d (.int .u8 171),.d (.int .u8 11),.d (.int .u8 245),.d (.int .u8 167),.d (.int .u8 191),.d (.int .u8 201),.sl 1 54 0 1 1 false,.d (d0),.d (.int .i64 1),.d (.int .i64 1),.d (.int .u8 0),.d (.int .u8 0),.d (.int .u8 0),.d (.int .u8 0),.d (.int .u8 0),.d (.int .u8 0),.d (.int .u8 0),.d (.int .u8 0),.d (.int .u8 0),.d (.int .u8 0),.d (.int .u8 0),.d (.int .u8 0),.d (.int .u8 0),.d (.int .u8 0),.d (.int .u8 0),.d (.int .u8 0)]],[.live (.dat 1 [.int .i64 6] true),.live (.dat 54 [d35] true)],.d (d25)⟩
-- antiquary/hash.compress 14152
def E67:Ent:=⟨251,[.d (d3),.sl 0 1 8 64 64 true],[.live (.box ((isD .u32 [1779033703,3144134277,1013904242,2773480762,1359893119,2600822924,528734635,1541459225]).map .d ++ (isD .u8 [135,2,107,32,204,50,213,17,119,169,234,216,20,152,65,135,170,247,57,35,2,107,128,0,0,0,0,0,0,0,0,0,0,0,0,0,0,0,0,0,0,0,0,0,0,0,0,0,0,0,0,0,0,0,0,0,0,0,0,0,0,0,0,176]).map .d ++ [.d (.int .u64 64)]) true)],.d (.agg (isD .u32 [3098635703,2706462465,1582299546,1163524781,345185816,226275679,3009031446,3324574851]))⟩
-- antiquary/hash.Of 2899
def E68:Ent:=⟨78,[.d (.int .i64 391),.sl 0 1 0 3 3 false],[.live (.dat 1 [st [107],st [204,50,213,17,119,169,234,216,20,152,65,135,170,247,57,35],st [107]] true)],.d (d26)⟩
-- antiquary/seal.Make 314
def E69:Ent:=⟨59,[.d (d1),.d (.int .i64 391),.sl 0 1 0 1 1 true],[.live (.dat 1 [st [204,50,213,17,119,169,234,216,20,152,65,135,170,247,57,35]] true)],.d (d26)⟩
-- antiquary/answer.Make 3657
def E70:Ent:=⟨16,[.agg [.d (.int .i64 1),.d (.int .i64 1),.nil],.d (d1),.d (d39),.d (d38),.sl 0 17 0 1 1 true,.agg [.sl 1 1 0 1 1 true,.d (.int .i64 1),.d (.int .i64 134217728),.d (.int .i64 1),.d (st []),.d (.int .i64 0),.d (.int .i64 0),.d (st []),.nil,.d (.int .i64 2),.d (.int .i64 1),.d (.int .i64 0)]],[.live (.dat 17 [d33] true),.live (.dat 1 [.int .i64 6] true)],.tup [.d (d41),.d (.int .i64 0)]⟩
-- antiquary/daybook.text 953
def E71:Ent:=⟨121,[.d (d39)],[],.d (st [71,224,58,153,26,182,106,241,45,105,8,108,41,82,17,63])⟩
-- antiquary/seal.Check 721
def E72:Ent:=⟨71,[.sl 0 5 0 1 1 true,.d (.int .i64 1073741825),.d (.int .i64 1),.d (.int .i64 362),.sl 1 1 0 1 1 true,.d (d22),.d (.int .i64 3)],[.live (.dat 5 [d1] true),.live (.dat 1 [st [71,224,58,153,26,182,106,241,45,105,8,108,41,82,17,63]] true)],.d (.int .i64 0)⟩
-- antiquary/daybook.text 797
def E73:Ent:=⟨121,[.d (d38)],[],.d (st [143,7,177,10,199,86,91,73,63,171,12,17,74,152,135,200])⟩
-- antiquary/seal.Check 721
def E74:Ent:=⟨71,[.sl 0 5 0 1 1 true,.d (.int .i64 1073741825),.d (.int .i64 1),.d (.int .i64 362),.sl 1 1 0 1 1 true,.d (d24),.d (.int .i64 2)],[.live (.dat 5 [d1] true),.live (.dat 1 [st [143,7,177,10,199,86,91,73,63,171,12,17,74,152,135,200]] true)],.d (.int .i64 0)⟩
-- antiquary/proof.hits 816
def E75:Ent:=⟨220,[.agg [.d (.int .i64 1),.d (.int .i64 1),.nil],.d (d14),.mp 0,.d (.list [.int .i64 0,.int .i64 1])],[.live (.map [(.int .i64 0,.d (d12)),(.int .i64 1,.d (d13))] 2 true)],.d (d0)⟩
-- antiquary/proof.Check 2272
def E76:Ent:=⟨135,[.agg [.d (.int .i64 1),.d (.int .i64 1),.nil],.d (d31),.d (d14),.d (d35)],[],.tup [.d (d2),.d (.int .i64 0)]⟩
-- antiquary/answer.EncodeQuery 1328
def E77:Ent:=⟨8,[.d (d14)],[],.d (d29)⟩
-- antiquary/answer.Name 334
def E78:Ent:=⟨21,[.d (d41)],[],.d (d25)⟩
-- antiquary/seal.Check 721
def E79:Ent:=⟨71,[.sl 0 5 0 1 1 true,.d (.int .i64 1073741825),.d (.int .i64 1),.d (.int .i64 391),.sl 1 1 0 1 1 true,.d (d26),.d (.int .i64 3)],[.live (.dat 5 [d1] true),.live (.dat 1 [st [204,50,213,17,119,169,234,216,20,152,65,135,170,247,57,35]] true)],.d (.int .i64 0)⟩
-- antiquary/answer.Check 3245
def E80:Ent:=⟨17,[.sl 0 5 0 1 1 true,.agg [.d (.int .i64 1),.d (.int .i64 1),.nil],.d (d41)],[.live (.dat 5 [d1] true)],.tup [.d (d2),.d (.int .i64 0)]⟩
-- antiquary/answer.Make 1850
def E81:Ent:=⟨16,[.agg [.d (.int .i64 1),.d (.int .i64 1),.nil],.d (d1),.d (d39),.d (d38),.sl 0 17 0 1 1 true,.agg [.sl 1 1 0 1 1 true,.d (.int .i64 1),.d (.int .i64 134217728),.d (.int .i64 1),.d (st []),.d (.int .i64 0),.d (.int .i64 0),.d (st []),.nil,.d (.int .i64 3),.d (.int .i64 1),.d (.int .i64 0)]],[.live (.dat 17 [d33] true),.live (.dat 1 [.int .i64 6] true)],.tup [.d (d40),.d (.int .i64 9)]⟩
-- antiquary/answer.Make 1768
def E82:Ent:=⟨16,[.agg [.d (.int .i64 1),.d (.int .i64 1),.nil],.d (d1),.d (d39),.d (d38),.sl 0 17 0 1 1 true,.agg [.sl 1 1 0 1 1 true,.d (.int .i64 1),.d (.int .i64 134217728),.d (.int .i64 1),.d (st []),.d (.int .i64 0),.d (.int .i64 0),.d (st []),.nil,.d (.int .i64 2),.d (.int .i64 3),.d (.int .i64 0)]],[.live (.dat 17 [d33] true),.live (.dat 1 [.int .i64 6] true)],.tup [.d (d40),.d (.int .i64 3)]⟩
-- antiquary/answer.Check 3124
def E83:Ent:=⟨17,[.sl 0 5 0 1 1 true,.agg [.d (.int .i64 1),.d (.int .i64 1),.nil],.agg [.d (.list [.int .i64 6]),.d (.int .i64 1),.d (.int .i64 134217728),.d (.int .i64 1),.d (st []),.d (.int .i64 0),.d (.int .i64 0),.d (st []),.d (.list []),.d (.int .i64 2),.d (.int .i64 1),.d (.int .i64 0),.d (.int .i64 1),.d (.int .i64 2),.d (.int .i64 3),.d (.int .i64 0),.d (.int .u8 0),.d (.int .u8 0),.d (.int .u8 0),.d (.int .u8 0),.d (.int .u8 0),.d (.int .u8 0),.d (.int .u8 0),.d (.int .u8 0),.d (.int .u8 0),.d (.int .u8 0),.d (.int .u8 0),.d (.int .u8 0),.d (.int .u8 0),.d (.int .u8 0),.d (.int .u8 0),.d (.int .u8 0),.d (.int .u8 230),.d (.int .u8 240),.d (.int .u8 96),.d (.int .u8 101),.d (.int .u8 135),.d (.int .u8 232),.d (.int .u8 118),.d (.int .u8 218),.d (.int .u8 211),.d (.int .u8 161),.d (.int .u8 20),.d (.int .u8 24),.d (.int .u8 203),.d (.int .u8 51),.d (.int .u8 50),.d (.int .u8 55),.d (d32),.d (.int .u8 0),.d (.int .u8 0),.d (.int .u8 0),.d (.int .u8 0),.d (.int .u8 0),.d (.int .u8 0),.d (.int .u8 0),.d (.int .u8 0),.d (.int .u8 0),.d (.int .u8 0),.d (.int .u8 0),.d (.int .u8 0),.d (.int .u8 0),.d (.int .u8 0),.d (.int .u8 0),.d (.int .u8 0),.d (.int .i64 0),.d (.int .u8 0),.d (.int .u8 0),.d (.int .u8 0),.d (.int .u8 0),.d (.int .u8 0),.d (.int .u8 0),.d (.int .u8 0),.d (.int .u8 0),.d (.int .u8 0),.d (.int .u8 0),.d (.int .u8 0),.d (.int .u8 0),.d (.int .u8 0),.d (.int .u8 0),.d (.int .u8 0),.d (.int .u8 0),.d (.int .i64 0),.d (.int .i64 1),.d (.int .u8 212),.d (.int .u8 176),.d (.int .u8 34),.d (.int .u8 8),.d (.int .u8 199),.d (.int .u8 130),.d (.int .u8 64),.d (.int .u8 222),.d (.int .u8 244),.d (.int .u8 198),.d (.int .u8 108),.d (.int .u8 174),.d (.int .u8 39),.d (.int .u8 223),.d (.int .u8 121),.d (.int .u8 73),.d (.int .i64 1),.d (.int .i64 1),.d (.int .i64 2),.d (.int .i64 0),.d (.int .u8 0),.d (.int .u8 0),.d (.int .u8 0),.d (.int .u8 0),.d (.int .u8 0),.d (.int .u8 0),.d (.int .u8 0),.d (.int .u8 0),.d (.int .u8 0),.d (.int .u8 0),.d (.int .u8 0),.d (.int .u8 0),.d (.int .u8 0),.d (.int .u8 0),.d (.int .u8 0),.d (.int .u8 0),.d (.int .u8 230),.d (.int .u8 240),.d (.int .u8 96),.d (.int .u8 101),.d (.int .u8 135),.d (.int .u8 232),.d (.int .u8 118),.d (.int .u8 218),.d (.int .u8 211),.d (.int .u8 161),.d (.int .u8 20),.d (.int .u8 24),.d (.int .u8 203),.d (.int .u8 51),.d (.int .u8 50),.d (.int .u8 55),.d (.list []),.d (.int .u8 0),.d (.int .u8 0),.d (.int .u8 0),.d (.int .u8 0),.d (.int .u8 0),.d (.int .u8 0),.d (.int .u8 0),.d (.int .u8 0),.d (.int .u8 0),.d (.int .u8 0),.d (.int .u8 0),.d (.int .u8 0),.d (.int .u8 0),.d (.int .u8 0),.d (.int .u8 0),.d (.int .u8 0),.d (.int .i64 0),.d (.int .u8 0),.d (.int .u8 0),.d (.int .u8 0),.d (.int .u8 0),.d (.int .u8 0),.d (.int .u8 0),.d (.int .u8 0),.d (.int .u8 0),.d (.int .u8 0),.d (.int .u8 0),.d (.int .u8 0),.d (.int .u8 0),.d (.int .u8 0),.d (.int .u8 0),.d (.int .u8 0),.d (.int .u8 0),.d (.int .i64 0),.d (.int .i64 1),.d (.int .u8 255),.d (.int .u8 158),.d (.int .u8 217),.d (.int .u8 47),.d (.int .u8 201),.d (.int .u8 238),.d (.int .u8 56),.d (.int .u8 117),.d (.int .u8 34),.d (.int .u8 53),.d (.int .u8 171),.d (.int .u8 11),.d (.int .u8 245),.d (.int .u8 167),.d (.int .u8 191),.d (.int .u8 201),.d (d36),.nil,.d (.int .i64 1),.d (.int .i64 1),.d (.int .u8 184),.d (.int .u8 177),.d (.int .u8 109),.d (.int .u8 183),.d (.int .u8 161),.d (.int .u8 81),.d (.int .u8 87),.d (.int .u8 1),.d (.int .u8 94),.d (.int .u8 79),.d (.int .u8 249),.d (.int .u8 154),.d (.int .u8 69),.d (.int .u8 89),.d (.int .u8 250),.d (.int .u8 173)]],[.live (.dat 5 [d1] true)],.tup [.d (.agg [.list [],.list []]),.d (.int .i64 3)]⟩
-- antiquary/answer.Check 3170
def E84:Ent:=⟨17,[.sl 0 5 0 1 1 true,.agg [.d (.int .i64 1),.d (.int .i64 1),.nil],.d (.agg [.list [.int .i64 6],.int .i64 1,.int .i64 134217728,.int .i64 1,st [],.int .i64 0,.int .i64 0,st [],.list [],.int .i64 2,.int .i64 1,.int .i64 0,.int .i64 1,.int .i64 2,.int .i64 3,.int .i64 0,.int .u8 0,.int .u8 0,.int .u8 0,.int .u8 0,.int .u8 0,.int .u8 0,.int .u8 0,.int .u8 0,.int .u8 0,.int .u8 0,.int .u8 0,.int .u8 0,.int .u8 0,.int .u8 0,.int .u8 0,.int .u8 0,.int .u8 230,.int .u8 240,.int .u8 96,.int .u8 101,.int .u8 135,.int .u8 232,.int .u8 118,.int .u8 218,.int .u8 211,.int .u8 161,.int .u8 20,.int .u8 24,.int .u8 203,.int .u8 51,.int .u8 50,.int .u8 55,d32,.int .u8 0,.int .u8 0,.int .u8 0,.int .u8 0,.int .u8 0,.int .u8 0,.int .u8 0,.int .u8 0,.int .u8 0,.int .u8 0,.int .u8 0,.int .u8 0,.int .u8 0,.int .u8 0,.int .u8 0,.int .u8 0,.int .i64 0,.int .u8 0,.int .u8 0,.int .u8 0,.int .u8 0,.int .u8 0,.int .u8 0,.int .u8 0,.int .u8 0,.int .u8 0,.int .u8 0,.int .u8 0,.int .u8 0,.int .u8 0,.int .u8 0,.int .u8 0,.int .u8 0,.int .i64 0,.int .i64 1,.int .u8 212,.int .u8 176,.int .u8 34,.int .u8 8,.int .u8 199,.int .u8 130,.int .u8 64,.int .u8 222,.int .u8 244,.int .u8 198,.int .u8 108,.int .u8 174,.int .u8 39,.int .u8 223,.int .u8 121,.int .u8 73,.int .i64 1,.int .i64 1,.int .i64 2,.int .i64 0,.int .u8 0,.int .u8 0,.int .u8 0,.int .u8 0,.int .u8 0,.int .u8 0,.int .u8 0,.int .u8 0,.int .u8 0,.int .u8 0,.int .u8 0,.int .u8 0,.int .u8 0,.int .u8 0,.int .u8 0,.int .u8 0,.int .u8 230,.int .u8 240,.int .u8 96,.int .u8 101,.int .u8 135,.int .u8 232,.int .u8 118,.int .u8 218,.int .u8 211,.int .u8 161,.int .u8 20,.int .u8 24,.int .u8 203,.int .u8 51,.int .u8 50,.int .u8 55,.list [],.int .u8 0,.int .u8 0,.int .u8 0,.int .u8 0,.int .u8 0,.int .u8 0,.int .u8 0,.int .u8 0,.int .u8 0,.int .u8 0,.int .u8 0,.int .u8 0,.int .u8 0,.int .u8 0,.int .u8 0,.int .u8 0,.int .i64 0,.int .u8 0,.int .u8 0,.int .u8 0,.int .u8 0,.int .u8 0,.int .u8 0,.int .u8 0,.int .u8 0,.int .u8 0,.int .u8 0,.int .u8 0,.int .u8 0,.int .u8 0,.int .u8 0,.int .u8 0,.int .u8 0,.int .i64 0,.int .i64 1,.int .u8 255,.int .u8 158,.int .u8 217,.int .u8 47,.int .u8 201,.int .u8 238,.int .u8 56,.int .u8 117,.int .u8 34,.int .u8 53,.int .u8 171,.int .u8 11,.int .u8 245,.int .u8 167,.int .u8 191,.int .u8 201,d36,d0,.int .i64 0,.int .i64 1,.int .u8 184,.int .u8 177,.int .u8 109,.int .u8 183,.int .u8 161,.int .u8 81,.int .u8 87,.int .u8 1,.int .u8 94,.int .u8 79,.int .u8 249,.int .u8 154,.int .u8 69,.int .u8 89,.int .u8 250,.int .u8 173])],[.live (.dat 5 [d1] true)],.tup [.d (.agg [.list [],.list []]),.d (.int .i64 3)]⟩
-- antiquary/answer.Name 334
def E85:Ent:=⟨21,[.d (d42)],[],.d (d25)⟩
-- antiquary/seal.Check 719
def E86:Ent:=⟨71,[.sl 0 5 0 1 1 true,.d (.int .i64 1073741825),.d (.int .i64 1),.d (.int .i64 391),.sl 1 1 0 1 1 true,.d (.agg (isD .u8 [185,177,109,183,161,81,87,1,94,79,249,154,69,89,250,173])),.d (.int .i64 3)],[.live (.dat 5 [d1] true),.live (.dat 1 [st [204,50,213,17,119,169,234,216,20,152,65,135,170,247,57,35]] true)],.d (.int .i64 8)⟩
-- antiquary/answer.Check 3232
def E87:Ent:=⟨17,[.sl 0 5 0 1 1 true,.agg [.d (.int .i64 1),.d (.int .i64 1),.nil],.d (d42)],[.live (.dat 5 [d1] true)],.tup [.d (.agg [.list [],.list []]),.d (.int .i64 8)]⟩
-- antiquary/answer.Check 1054
def E88:Ent:=⟨17,[.nil,.agg [.d (.int .i64 1),.d (.int .i64 1),.nil],.d (d41)],[],.tup [.d (.agg [.list [],.list []]),.d (.int .i64 5)]⟩
-- antiquary/wire.Digests 517
def E89:Ent:=⟨156,[.sl 0 16 0 7 7 false],[.live (.dat 16 [d27,d15,d27,d27,d17,d20,d22] true)],.d (.list (isD .u8 [14,0,0,0,0,0,0,0,0,0,0,0,0,0,0,0,0,230,240,96,101,135,232,118,218,211,161,20,24,203,51,50,55,0,0,0,0,0,0,0,0,0,0,0,0,0,0,0,0,0,0,0,0,0,0,0,0,0,0,0,0,0,0,0,0,255,54,104,145,241,43,32,126,6,102,87,7,3,137,50,174,169,114,199,204,127,70,191,247,185,250,235,213,244,228,231,135,212,176,34,8,199,130,64,222,244,198,108,174,39,223,121,73]))⟩
-- antiquary/daybook.Encode 1055
def E90:Ent:=⟨75,[.d (d39)],[],.d (.list (isD .u8 [16,2,4,6,0,0,0,2,4,14,0,0,0,0,0,0,0,0,0,0,0,0,0,0,0,0,230,240,96,101,135,232,118,218,211,161,20,24,203,51,50,55,0,0,0,0,0,0,0,0,0,0,0,0,0,0,0,0,0,0,0,0,0,0,0,0,0,0,0,0,0,0,0,0,255,54,104,145,241,43,32,126,6,102,87,7,3,137,50,174,169,114,199,204,127,70,191,247,185,250,235,213,244,228,231,135,212,176,34,8,199,130,64,222,244,198,108,174,39,223,121,73]))⟩
-- antiquary/wire.Digests 393
def E91:Ent:=⟨156,[.sl 0 16 0 5 5 false],[.live (.dat 16 [d27,d15,d27,d27,d24] true)],.d (.list (isD .u8 [10,0,0,0,0,0,0,0,0,0,0,0,0,0,0,0,0,230,240,96,101,135,232,118,218,211,161,20,24,203,51,50,55,0,0,0,0,0,0,0,0,0,0,0,0,0,0,0,0,0,0,0,0,0,0,0,0,0,0,0,0,0,0,0,0,255,158,217,47,201,238,56,117,34,53,171,11,245,167,191,201]))⟩
-- antiquary/daybook.Encode 887
def E92:Ent:=⟨75,[.d (d38)],[],.d (.list (isD .u8 [14,2,2,4,0,0,0,2,10,0,0,0,0,0,0,0,0,0,0,0,0,0,0,0,0,230,240,96,101,135,232,118,218,211,161,20,24,203,51,50,55,0,0,0,0,0,0,0,0,0,0,0,0,0,0,0,0,0,0,0,0,0,0,0,0,0,0,0,0,0,0,0,0,255,158,217,47,201,238,56,117,34,53,171,11,245,167,191,201]))⟩
-- antiquary/answer.Encode 1050
def E93:Ent:=⟨20,[.d (d41)],[],.d (d43)⟩
-- antiquary/answer.DecodeQuery 3511
def E94:Ent:=⟨5,[.d (d29)],[],.tup [.d (d14),.d (.int .i64 0)]⟩
-- antiquary/zone.Decode 3846
def E95:Ent:=⟨243,[.d (d28)],[],.tup [.d (d11),.d (.int .i64 0)]⟩
-- antiquary/attr.Decode 2540
def E96:Ent:=⟨245,[.d (.list (isD .u8 [20,2,2,2,0,0,130,128,128,1,2,2,10,0,0]))],[],.tup [.d (d9),.d (.int .i64 0)]⟩
-- antiquary/attr.Decode 2540
def E97:Ent:=⟨245,[.d (.list (isD .u8 [20,4,2,2,0,0,130,128,128,1,2,2,18,0,0]))],[],.tup [.d (d10),.d (.int .i64 0)]⟩
-- antiquary/part.Decode 2547
def E98:Ent:=⟨153,[.d (.list (isD .u8 [10,2,98,4,2,4,34,24,4,0,0,130,128,128,1,2,2,2,10,2,18,0,0,0,30,20,2,2,2,0,0,130,128,128,1,2,2,10,0,0,30,20,4,2,2,0,0,130,128,128,1,2,2,18,0,0]))],[],.tup [.d (d34),.d (.int .i64 0)]⟩
-- antiquary/proof.Decode 3894
def E99:Ent:=⟨74,[.d (d37)],[],.tup [.d (d35),.d (.int .i64 0)]⟩
-- antiquary/answer.Decode 8781
def E100:Ent:=⟨19,[.d (d43)],[],.tup [.d (d41),.d (.int .i64 0)]⟩
-- antiquary/antiquaryref39.EncodeQuery 1382
def E101:Ent:=⟨11,[.d (d14)],[],.d (d29)⟩
-- antiquary/antiquaryref39.EncodeQuery 1382
def E102:Ent:=⟨11,[.agg [.sl 0 1 0 1 1 true,.d (.int .i64 1),.d (.int .i64 134217728),.d (.int .i64 1),.d (st []),.d (.int .i64 0),.d (.int .i64 0),.d (st []),.nil,.d (.int .i64 2),.d (.int .i64 1),.d (.int .i64 0)]],[.live (.dat 1 [.int .i64 6] true)],.d (d29)⟩
def T0:List Ent:=[]
def T1:List Ent:=E0 :: T0
def T2:List Ent:=E1 :: T1
def T3:List Ent:=E2 :: T2
def T4:List Ent:=E3 :: T3
def T5:List Ent:=E4 :: T4
def T6:List Ent:=E5 :: T5
def T7:List Ent:=E6 :: T6
def T8:List Ent:=E7 :: T7
def T9:List Ent:=E8 :: T8
def T10:List Ent:=E9 :: T9
def T11:List Ent:=E10 :: T10
def T12:List Ent:=E11 :: T11
def T13:List Ent:=E12 :: T12
def T14:List Ent:=E13 :: T13
def T15:List Ent:=E14 :: T14
def T16:List Ent:=E15 :: T15
def T17:List Ent:=E16 :: T16
def T18:List Ent:=E17 :: T17
def T19:List Ent:=E18 :: T18
def T20:List Ent:=E19 :: T19
def T21:List Ent:=E20 :: T20
def T22:List Ent:=E21 :: T21
def T23:List Ent:=E22 :: T22
def T24:List Ent:=E23 :: T23
def T25:List Ent:=E24 :: T24
def T26:List Ent:=E25 :: T25
def T27:List Ent:=E26 :: T26
def T28:List Ent:=E27 :: T27
def T29:List Ent:=E28 :: T28
def T30:List Ent:=E29 :: T29
def T31:List Ent:=E30 :: T30
def T32:List Ent:=E31 :: T31
def T33:List Ent:=E32 :: T32
def T34:List Ent:=E33 :: T33
def T35:List Ent:=E34 :: T34
def T36:List Ent:=E35 :: T35
def T37:List Ent:=E36 :: T36
def T38:List Ent:=E37 :: T37
def T39:List Ent:=E38 :: T38
def T40:List Ent:=E39 :: T39
def T41:List Ent:=E40 :: T40
def T42:List Ent:=E41 :: T41
def T43:List Ent:=E42 :: T42
def T44:List Ent:=E43 :: T43
def T45:List Ent:=E44 :: T44
def T46:List Ent:=E45 :: T45
def T47:List Ent:=E46 :: T46
def T48:List Ent:=E47 :: T47
def T49:List Ent:=E48 :: T48
def T50:List Ent:=E49 :: T49
def T51:List Ent:=E50 :: T50
def T52:List Ent:=E51 :: T51
def T53:List Ent:=E52 :: T52
def T54:List Ent:=E53 :: T53
def T55:List Ent:=E54 :: T54
def T56:List Ent:=E55 :: T55
def T57:List Ent:=E56 :: T56
def T58:List Ent:=E57 :: T57
def T59:List Ent:=E58 :: T58
def T60:List Ent:=E59 :: T59
def T61:List Ent:=E60 :: T60
def T62:List Ent:=E61 :: T61
def T63:List Ent:=E62 :: T62
def T64:List Ent:=E63 :: T63
def T65:List Ent:=E64 :: T64
def T66:List Ent:=E65 :: T65
def T67:List Ent:=E66 :: T66
def T68:List Ent:=E67 :: T67
def T69:List Ent:=E68 :: T68
def T70:List Ent:=E69 :: T69
def T71:List Ent:=E70 :: T70
def T72:List Ent:=E71 :: T71
def T73:List Ent:=E72 :: T72
def T74:List Ent:=E73 :: T73
def T75:List Ent:=E74 :: T74
def T76:List Ent:=E75 :: T75
def T77:List Ent:=E76 :: T76
def T78:List Ent:=E77 :: T77
def T79:List Ent:=E78 :: T78
def T80:List Ent:=E79 :: T79
def T81:List Ent:=E80 :: T80
def T82:List Ent:=E81 :: T81
def T83:List Ent:=E82 :: T82
def T84:List Ent:=E83 :: T83
def T85:List Ent:=E84 :: T84
def T86:List Ent:=E85 :: T85
def T87:List Ent:=E86 :: T86
def T88:List Ent:=E87 :: T87
def T89:List Ent:=E88 :: T88
def T90:List Ent:=E89 :: T89
def T91:List Ent:=E90 :: T90
def T92:List Ent:=E91 :: T91
def T93:List Ent:=E92 :: T92
def T94:List Ent:=E93 :: T93
def T95:List Ent:=E94 :: T94
def T96:List Ent:=E95 :: T95
def T97:List Ent:=E96 :: T96
def T98:List Ent:=E97 :: T97
def T99:List Ent:=E98 :: T98
def T100:List Ent:=E99 :: T99
def T101:List Ent:=E100 :: T100
def T102:List Ent:=E101 :: T101
def T103:List Ent:=E102 :: T102
end Go.Aev.M44
