/- SegmentKillsAsSpecified returns true for every schema, segment and three numbers that hold together at most 1048576 values, and leaves its arguments as they were. Conditions: that bound; the two tables of constants are as the program's text lays them (the card ties them). -/
import Derived.Test.YtakpdahnlpjooaaGreatDoorK29
import Derived.Test.YtakpdahnlpjooaaGreatDoorC24Closed
import Derived.Test.YtakpdahnlpjooaaGreatDoorC24Goes
import Derived.Test.YtakpdahnlpjooaaGreatDoorCards
import Derived.Test.YtakpdahnlpjooaaGreatDoorTie
import Derived.ProofKit
import Derived.OpenShut
import Derived.Deep.DeepHandedRow
import Derived.Lib.LaidTab
namespace Go.Proofs.YtakpdahnlpjooaaGreatDoor
set_option maxRecDepth 100000
open Go.ChangeShapes Go.WideShapes Go.ChangeAt Go.RowKit
abbrev lr := Rows.segmentKillsAsSpecifiedUptoRow.laid
abbrev sp := Rows.segmentKillsAsSpecifiedSpec
def cInts : List Int := Go.Aev.R29.consts.map fun (n : Nat) => (n : Int)
noncomputable def tTab : TypeId := ((Tryz.prog.globals[0]?).map (·.type)).getD 0
theorem gTab0 : Tryz.prog.globalNamed "antiquary/hash.constants" = some 0 := by kernel_rfl
theorem gTab1 : Tryz.prog.globalNamed "antiquary/antiquaryref02.constants" = some 1 := by kernel_rfl
theorem gT0 : (Tryz.prog.globals[0]?).map (·.type) = some tTab := by kernel_rfl
theorem gT1 : (Tryz.prog.globals[1]?).map (·.type) = some tTab := by kernel_rfl
theorem uTab : Tryz.prog.underlying tTab = some (.array 64 175) := by kernel_rfl
theorem u175 : Tryz.prog.underlying 175 = some (.int .u32) := by kernel_rfl
theorem ck175 : Tryz.prog.cellsOf 175 = 1 := by kernel_rfl
theorem ckTab : Tryz.prog.cellsOf tTab = 64 := by kernel_rfl
theorem laidEq0 : (Rows.laid_antiquary_hash_constants : DataW Unit) = Lib.tabData .u32 cInts := by kernel_rfl
theorem laidEq1 : (Rows.laid_antiquary_antiquaryref02_constants : DataW Unit) = Lib.tabData .u32 cInts := by kernel_rfl
theorem laid_tail {x : String × DataW Unit} {r : List (String × DataW Unit)} {W : World} (h : laidMet Tryz.prog (x :: r) W) : laidMet Tryz.prog r W := by
 obtain ⟨ps, hl, hn, hc⟩ := h
 obtain ⟨n, d⟩ := x
 obtain ⟨g, t, cs, fuel, p, q, _, _, _, _, hq, rfl⟩ := hl
 exact ⟨q, hq, (List.nodup_append.1 hn).2.1, fun b off hb => hc b off (List.mem_append.2 (.inr hb))⟩
theorem tables {W : World} (h : laidMetH Tryz.prog lr W) : Lib.TabIs Tryz.prog W "antiquary/hash.constants" .u32 cInts /\ Lib.TabIs Tryz.prog W "antiquary/antiquaryref02.constants" .u32 cInts := by
 have h' : laidMet Tryz.prog [("antiquary/antiquaryref02.constants", Rows.laid_antiquary_antiquaryref02_constants), ("antiquary/hash.constants", Rows.laid_antiquary_hash_constants)] W := h
 rw [laidEq0, laidEq1] at h'
 exact ⟨Lib.tabIs_of_head (rest := []) gTab0 gT0 uTab u175 ck175 ckTab (laid_tail h'), Lib.tabIs_of_head gTab1 gT1 uTab u175 ck175 ckTab h'⟩
theorem glb {W : World} (h : laidMetH Tryz.prog lr W) : Go.Aev.Glb (Go.Aev.R29.SW W) W :=
 Go.Aev.R29.glb_of fun g hg j n hj => by
  have hl : j < cInts.length := by
   have := (List.getElem?_eq_some_iff.1 hj).1
   simpa [cInts] using this
  have e : cInts.getD j 0 = (n : Int) := by
   unfold cInts
   rw [List.getD_eq_getElem?_getD, List.getElem?_map, hj]; rfl
  have h0 := (tables h).1.cell gTab0 j hl
  have h1 := (tables h).2.cell gTab1 j hl
  rw [e] at h0 h1
  match g, hg with
  | 0, _ => exact h0
  | 1, _ => exact h1
  | k + 2, hg => exact absurd hg (by omega)
theorem bulk_pos {H : Type} (d : DataW H) : 1 <= Rows.uptoBulk d := by
 cases d with
 | lit l => cases l <;> simp [Rows.uptoBulk]
 | _ => simp [Rows.uptoBulk]
def bulk (H : Type) : Go.Aev.R29.Bulk H :=
 { f := Rows.uptoBulk, fs := Rows.uptoBulkAll, str := fun b => by simp [Rows.uptoBulk], agg := fun l => by simp [Rows.uptoBulk], slice := fun e s => by simp [Rows.uptoBulk], nil := by simp [Rows.uptoBulkAll], cons := fun d r => by simp [Rows.uptoBulkAll], pos := bulk_pos }
theorem contract (H : Type) (enc : TypeId × Value -> H) (W : World) (base : Nat) (args : Array Value) (ds gs : List (DataW H)) (before : List MemPlace)
  (hval0 : ∀ (j : Nat) t v, Tryz.f3.params[j]? = some t -> args[j]? = some v -> Value.okWide Tryz.prog W .any base t v)
  (hW : DataW.Whole enc Tryz.prog Tryz.f3.params.toList sp.vars false W args.toList ds gs before) (hk : Rows.uptoSmall H (ds ++ gs) = true) (hL : laidMetH Tryz.prog lr W) :
  Calls Tryz.prog 3 args W fun e W' => ∃ v, e = .returned v /\ sp.post enc Tryz.prog Tryz.f3 false true false false W args v W' := by
 have hval : ∀ (j : Nat) t v, Tryz.f3.params[j]? = some t -> args[j]? = some v -> Value.okWide Tryz.prog W .any base t v := hval0
 have hW' := hW
 obtain ⟨p, q, hA0, hV, rfl, _, _⟩ := hW
 have hA : DataW.TrodAll enc Tryz.prog W 0 (fun _ => true) true Tryz.f3.params.toList args.toList ds p := hA0
 rw [Tryz.params3] at hA hval
 obtain ⟨v0, vs0, d0, ds0, p0, q0, hargs, rfl, rfl, h0, r0⟩ := trodAll_cons hA
 obtain ⟨v1, vs1, d1, ds1, p1, q1, rfl, rfl, rfl, h1, r1⟩ := trodAll_cons r0
 obtain ⟨v2, vs2, d2, ds2, p2, q2, rfl, rfl, rfl, h2, r2⟩ := trodAll_cons r1
 obtain ⟨v3, vs3, d3, ds3, p3, q3, rfl, rfl, rfl, h3, r3⟩ := trodAll_cons r2
 obtain ⟨v4, vs4, d4, ds4, p4, q4, rfl, rfl, rfl, h4, r4⟩ := trodAll_cons r3
 obtain ⟨rfl, rfl, rfl⟩ := trodAll_nil r4
 obtain rfl : args = #[v0, v1, v2, v3, v4] := by cases args; simp_all
 obtain ⟨rfl, rfl⟩ := trodVars_none hV
 have hv : ∀ k (v : Value), #[24, 41, 3, 3, 3][k]? = some 3 -> #[v0, v1, v2, v3, v4][k]? = some v -> ∀ arr, v ≠ .agg arr := fun k v a b => by
  obtain ⟨n, hn⟩ := okWide_int Tryz.underlying3 (hval k 3 v a b)
  rw [hn]; intro arr h; cases h
 clear hA0 hval0
 simp only [List.append_nil] at hW' hk
 have hlt : ∀ x ∈ p0 ++ (p1 ++ (p2 ++ (p3 ++ p4))), x.block < W.heap.size := fun x hx => by simpa using hW'.lt x hx
 have hb : Rows.uptoBulk d0 <= 1048576 /\ Rows.uptoBulk d1 <= 1048576 /\ Rows.uptoBulk d2 <= 1048576 /\ Rows.uptoBulk d3 <= 1048576 /\ Rows.uptoBulk d4 <= 1048576 := by
  have h : Rows.uptoBulkAll [d0, d1, d2, d3, d4] <= 1048576 := of_decide_eq_true hk
  simp only [Rows.uptoBulkAll] at h
  omega
 have hBG : 1048576 <= Go.Aev.R29.BG := by unfold Go.Aev.R29.BG; decide
 refine (Go.Aev.R29.law_calls (bulk H) (glb hL) (hv 2 _ rfl rfl) (hv 3 _ rfl rfl) (hv 4 _ rfl rfl) h0 h1 h2 h3 h4 (Nat.le_trans hb.1 hBG) (Nat.le_trans hb.2.1 hBG) (Nat.le_trans hb.2.2.1 hBG) (Nat.le_trans hb.2.2.2.1 hBG) (Nat.le_trans hb.2.2.2.2 hBG)).mono fun e W' ⟨he, hbel⟩ => ?_
 subst he
 have harg0 := Below.trod laidOut3 (by kernel_rfl) (of_decide_eq_true (by kernel_rfl)) h0 hbel (fun x hx => hlt x (by simp [hx]))
 have harg1 := Below.trod laidOut3 (by kernel_rfl) (of_decide_eq_true (by kernel_rfl)) h1 hbel (fun x hx => hlt x (by simp [hx]))
 have harg2 := Below.trod laidOut3 (by kernel_rfl) (of_decide_eq_true (by kernel_rfl)) h2 hbel (fun x hx => hlt x (by simp [hx]))
 have harg3 := Below.trod laidOut3 (by kernel_rfl) (of_decide_eq_true (by kernel_rfl)) h3 hbel (fun x hx => hlt x (by simp [hx]))
 have harg4 := Below.trod laidOut3 (by kernel_rfl) (of_decide_eq_true (by kernel_rfl)) h4 hbel (fun x hx => hlt x (by simp [hx]))
 exact ⟨_, rfl, _, _, _, [], _, [], hW', trodAll_mk1 (shut_bool Tryz.underlying4 _), ⟨_, _, harg0, trodAll_mk4 harg1 harg2 harg3 harg4, rfl⟩, rfl, hbel.frame _, fun h => by cases h⟩
abbrev zs : Value := .slice none 0 0
abbrev zi : Value := .int .i64 0
def wArgs : Array Value := #[.agg #[zi, zi, zs], .agg #[zi, zi, zs, zi, zs, zs, zs, zi, zi, zi, zi, zi, zs, zs, zs, zs, zs], zi, zi, zi]
abbrev z0 {H : Type} : DataW H := .lit (.int .i64 0)
def wData {H : Type} : List (DataW H) := [.agg [z0, z0, .nil], .agg [z0, z0, .nil, .agg [.agg [z0, .agg [.nil, .nil], .nil, z0, z0, z0, z0, z0, .nil], .nil, .nil], .agg [.nil], .nil], z0, z0, z0]
def lc : Obj -> Obj
 | .cells _ t frozen => .cells (cInts.map fun n => Value.int .u32 n).toArray t frozen
 | o => o
noncomputable def lw (os : Os) : World :=
 { World.holding Tryz.prog os ⟨#[], #[], []⟩ with heap := ((World.holding Tryz.prog os ⟨#[], #[], []⟩).heap.modify 0 lc).modify 1 lc }
theorem laid_met (os : Os) : laidMet Tryz.prog lr ((lw os).forCall (fun _ _ => 0) ⟨#[], wArgs, []⟩).memory :=
 laidMet_of_run' 8 (by kernel_rfl) (by kernel_rfl)
theorem reads (os : Os) {H : Type} (enc : TypeId × Value -> H) : ∃ places, DataW.whole enc Tryz.prog ((lw os).forCall (fun _ _ => 0) ⟨#[], wArgs, []⟩).memory Tryz.f3.params.toList sp.vars false wArgs.toList 8 = some (wData, [], places) :=
 ⟨[], by kernel_rfl⟩
theorem liftedUpto (os : Os) (started : os.Started) (H : Type) (enc : TypeId × Value -> H) (F : Stop.Interp) :
  ReturnsInHanded {} Tryz.checked os 3 .any ((Rows.OpenSpec.upto sp).preRow enc Tryz.prog Tryz.f3 Rows.segmentKillsAsSpecifiedUptoRow.domain false lr) (((Rows.OpenSpec.upto sp).at F).post enc Tryz.prog Tryz.f3 false true false false) := by
 obtain ⟨places, hx⟩ := reads os enc
 refine returnsInHanded_of_row (C := Tryz.checked) (s := Rows.OpenSpec.upto sp) own3 started (by kernel_rfl) Tryz.func3
  (witness_row_at (enc := enc) (C := Tryz.checked) false (lw os) wArgs rfl (by kernel_rfl) (by kernel_rfl) (by kernel_rfl)
   (OpenSpec.preRow_of_cond 8 hx (by kernel_rfl) (fun k hk => by cases hk; kernel_rfl) (by kernel_rfl) (laid_met os))) ?_
 intro W base args ds gs before hval hW _ hcond _ hL _ _
 exact contract H enc W base args ds gs before hval hW (hcond _ rfl) hL
theorem saidUpto : Rows.SegmentKillsAsSpecifiedUptoSaid :=
 OpenClaim.holds_of_cond 3 Tryz.f3 rfl rfl rfl rfl rfl rfl rfl ⟨rfl, rfl, rfl, rfl, rfl⟩ rfl rfl rfl rfl rfl (by kernel_rfl) Tryz.func3 closed3
  (of_decide_eq_true (by kernel_rfl)) (by unfold Func.isWrapper; first | (rw [if_pos (by decide +kernel)]; kernel_rfl) | (rw [if_neg (by decide +kernel)]; exact ⟨rfl, rfl⟩))
  (fun os started H enc _ F => by rw [OpenClaim.pre_eq_preRow]; exact liftedUpto os started H enc F)
theorem plain3 (f : FuncId) (fn : Func) (hf : Tryz.pinned.checked.prog.funcNamed "antiquary/antiquarylaw29.SegmentKillsAsSpecified" = some f) (hfn : Tryz.pinned.checked.prog.funcs[f]? = some fn) :
  true = Tryz.pinned.checked.prog.looks [] /\ ∀ (j : Nat) t, fn.params[j]? = some t -> Tryz.pinned.checked.prog.wantsStandIn t = false := by
 obtain rfl : f = 3 := Option.some.inj ((show Tryz.prog.funcNamed "antiquary/antiquarylaw29.SegmentKillsAsSpecified" = some 3 by kernel_rfl).symm.trans hf) |>.symm
 obtain rfl : fn = Tryz.f3 := (Option.some.inj (Tryz.func3.symm.trans hfn)).symm
 refine ⟨by kernel_rfl, fun j t ht => ?_⟩
 rw [Tryz.params3] at ht
 have h24 : Tryz.prog.wantsStandIn 24 = false := by kernel_rfl
 have h41 : Tryz.prog.wantsStandIn 41 = false := by kernel_rfl
 have h3 : Tryz.prog.wantsStandIn 3 = false := by kernel_rfl
 have hm := Array.mem_of_getElem? ht
 have : t = 24 \/ t = 41 \/ t = 3 := by simpa using hm
 rcases this with rfl | rfl | rfl
 · exact h24
 · exact h41
 · exact h3
theorem segmentKillsAsSpecifiedUpto_card : Rows.SegmentKillsAsSpecifiedUptoCardSaid :=
 Claim7.holds_tied_plain_at .later [] _ _ _ _ saidUpto (fun _ h => by cases h) (by kernel_rfl) (fun _ h => by cases h) segmentKillsAsSpecifiedUpto_row_tie rfl ⟨rfl, rfl⟩ (by kernel_rfl) rfl plain3 goes_row
#print axioms segmentKillsAsSpecifiedUpto_card
end Go.Proofs.YtakpdahnlpjooaaGreatDoor
