/- FnExactBeginTop returns true for all arguments: the program's BeginTop gives what the reference's gives, in memory of its own. No condition; the listed tables are tied to the program's text. -/
import Derived.Test.YtnnabkldceklmaaGreatDoorJoinBTBt
import Derived.LaidLaws
set_option maxHeartbeats 16000000
set_option maxRecDepth 100000
namespace Go.Proofs.YtnnabkldceklmaaGreatDoor
open Go.ChangeShapes Go.WideShapes Go.ChangeAt Go.RowKit
open Go.ChangeMaps (open_string shut_string)
theorem tabsIn_row {W : World} (h : laidMetH Tryz.prog Rows.fnExactBeginTopRow.laid W) : TabsIn W :=
 tabsIn_of (by rw [MakeChecks.laidMetH_plain _ _ _ (by kernel_rfl)]) (.tail _ (.tail _ (.head _))) h
theorem beginTop_contract (H : Type) (enc : TypeId × Value → H) (W : World) (base : Nat) (args : Array Value) (ds gs : List (DataW H)) (before : List MemPlace)
  (hval0 : ∀ (j : Nat) t v, Tryz.f3.params[j]? = some t → args[j]? = some v → Value.okWide Tryz.prog W .any base t v)
  (hW : DataW.Whole enc Tryz.prog Tryz.f3.params.toList Rows.fnExactBeginTopSpec.vars false W args.toList ds gs before) (hL : laidMetH Tryz.prog Rows.fnExactBeginTopRow.laid W) (hsh : W.ShapedOpen Tryz.prog) :
  Calls Tryz.prog 3 args W fun e W' => ∃ v, e = .returned v ∧ Rows.fnExactBeginTopSpec.post enc Tryz.prog Tryz.f3 false true false false W args v W' := by
 have hval : ∀ (j : Nat) t v, Tryz.f3.params[j]? = some t → args[j]? = some v → Value.okWide Tryz.prog W .any base t v := hval0
 have hW' := hW
 obtain ⟨p, q, hA0, hV, rfl, hfz, hnd⟩ := hW
 have hA : DataW.TrodAll enc Tryz.prog W 0 (fun _ => true) true Tryz.f3.params.toList args.toList ds p := hA0
 rw [Tryz.params3] at hA hval
 obtain ⟨v0, vs0, d0, ds0, p0, q0, hargs0, rfl, rfl, h0, r0⟩ := trodAll_cons hA
 obtain ⟨v1, vs1, d1, ds1, p1, q1, hargs1, rfl, rfl, h1, r1⟩ := trodAll_cons r0
 obtain ⟨v2, vs2, d2, ds2, p2, q2, hargs2, rfl, rfl, h2, r2⟩ := trodAll_cons r1
 obtain ⟨rfl, rfl, rfl⟩ := trodAll_nil r2
 obtain rfl : args = #[v0, v1, v2] := by cases args; simp_all
 obtain ⟨rfl, rfl⟩ := trodVars_none hV
 obtain ⟨cs0, rfl, hsz0⟩ := okWide_struct Tryz.underlying31 (hval 0 31 v0 rfl rfl)
 obtain ⟨fuel0, hf0⟩ := h0
 obtain ⟨y0, hy0, hz0⟩ := opnCache.opn hf0
 obtain ⟨l0, rfl⟩ : ∃ l : List Value, cs0 = l.toArray := ⟨cs0.toList, by simp⟩
 obtain ⟨cs1, rfl, hsz1⟩ := okWide_struct Tryz.underlying34 (hval 1 34 v1 rfl rfl)
 obtain ⟨fuel1, hf1⟩ := h1
 obtain ⟨y1, hy1, hz1⟩ := opnBtree.opn hf1
 obtain ⟨l1, rfl⟩ : ∃ l : List Value, cs1 = l.toArray := ⟨cs1.toList, by simp⟩
 obtain ⟨y2, rfl, rfl, rfl, g2⟩ := open_int Tryz.underlying2 (hval 2 2 v2 rfl rfl) h2
 clear hA0 hval0
 refine (law_BeginTop y0 y1 y2 l0 l1 W hy0 hz0 hy1 hz1 ⟨tabsIn_row hL, maxLen_of hsh⟩).mono fun e W' ⟨he, hg⟩ => ?_
 subst he
 exact ⟨_, rfl, law_post (tb := 4) rfl hW' rfl laid_out (fun t ht => by rw [Tryz.params3] at ht; simp at ht; rcases ht with rfl | rfl | rfl <;> exact ⟨by kernel_rfl, of_decide_eq_true (by kernel_rfl)⟩) (by kernel_rfl) Tryz.underlying4 hg⟩
noncomputable def laidWorldR (os : Os) : World := World.laidAll Tryz.prog os Rows.fnExactBeginTopRow.laid
theorem laidR_met (os : Os) (args : Array Value) : laidMetH Tryz.prog Rows.fnExactBeginTopRow.laid ((laidWorldR os).forCall (fun _ _ => 0) ⟨#[], args, []⟩).memory := by
 rw [MakeChecks.laidMetH_plain _ _ _ (by kernel_rfl)]
 exact laidMet_laidAll _ (by kernel_rfl) (by kernel_rfl)
theorem beginTop_reads (os : Os) {H : Type} (enc : TypeId × Value → H) : ∃ x, DataW.whole enc Tryz.prog ((laidWorldR os).forCall (fun _ _ => 0) ⟨#[], #[.agg zz9, .agg #[.int .i64 0, .slice none 0 0], .int .i64 0], []⟩).memory Tryz.f3.params.toList Rows.fnExactBeginTopSpec.vars false (#[.agg zz9, .agg #[.int .i64 0, .slice none 0 0], .int .i64 0] : Array Value).toList 8 = some ([.agg [.agg [.lit (.int .i64 0), .nil, .nil], .agg [.lit (.int .i64 0), .lit (.int .i64 0), .lit (.int .i64 0), .nil], .agg [.lit (.int .i64 0), .lit (.int .i64 0), .lit (.int .i64 0), .nil], .nil, .nil], .agg [.lit (.int .i64 0), .nil], .lit (.int .i64 0)], [], x) :=
 ⟨[], by kernel_rfl⟩
theorem beginTop_lifted (os : Os) (started : os.Started) (H : Type) (enc : TypeId × Value → H) (F : Stop.Interp) :
  ReturnsInHanded {} Tryz.checked os 3 .any ((OpenSpec.ofChange Rows.fnExactBeginTopSpec).preRow enc Tryz.prog Tryz.f3 Rows.fnExactBeginTopRow.domain false Rows.fnExactBeginTopRow.laid) (((OpenSpec.ofChange Rows.fnExactBeginTopSpec).at F).post enc Tryz.prog Tryz.f3 false true false false) := by
 obtain ⟨places, hx⟩ := beginTop_reads os enc
 refine returnsInHanded_of_row (C := Tryz.checked) (s := OpenSpec.ofChange Rows.fnExactBeginTopSpec) own_knob started (by kernel_rfl) Tryz.func3
  (witness_row_at (enc := enc) (C := Tryz.checked) false (laidWorldR os) #[.agg zz9, .agg #[.int .i64 0, .slice none 0 0], .int .i64 0] (World.laidAll_os _ _ _) (by kernel_rfl) (by kernel_rfl) (by kernel_rfl)
   (OpenSpec.preRow_of_cond 8 hx (by kernel_rfl) (fun k hk => by cases hk) (by kernel_rfl) (laidR_met os _))) ?_
 intro W base args ds gs before hval hW _ _ _ hL hsh _
 exact beginTop_contract H enc W base args ds gs before hval hW hL hsh
theorem beginTop_said : Rows.FnExactBeginTopSaid :=
 OpenClaim.holds_of_cond 3 Tryz.f3 rfl rfl rfl rfl rfl rfl rfl ⟨rfl, rfl, rfl, rfl, rfl⟩ rfl rfl rfl rfl rfl beginTop_named Tryz.func3 beginTop_facts
  (of_decide_eq_true (by kernel_rfl)) (by unfold Func.isWrapper; first | (rw [if_pos (by decide +kernel)]; kernel_rfl) | (rw [if_neg (by decide +kernel)]; exact ⟨rfl, rfl⟩))
  (fun os started H enc _ F => by rw [OpenClaim.pre_eq_preRow]; exact beginTop_lifted os started H enc F)
theorem beginTop_plain (f : FuncId) (fn : Func) (hf : Tryz.pinned.checked.prog.funcNamed "loop.example/g00874/laws.FnExactBeginTop" = some f) (hfn : Tryz.pinned.checked.prog.funcs[f]? = some fn) :
  false = Tryz.pinned.checked.prog.looks [] ∧ ∀ (j : Nat) t, fn.params[j]? = some t → Tryz.pinned.checked.prog.wantsStandIn t = false := by
 obtain rfl : f = 3 := Option.some.inj ((show Tryz.prog.funcNamed "loop.example/g00874/laws.FnExactBeginTop" = some 3 by kernel_rfl).symm.trans hf) |>.symm
 obtain rfl : fn = Tryz.f3 := (Option.some.inj (Tryz.func3.symm.trans hfn)).symm
 refine ⟨by kernel_rfl, fun j t ht => ?_⟩
 rw [Tryz.params3] at ht
 have hm := Array.mem_of_getElem? ht
 simp at hm
 rcases hm with rfl | rfl | rfl
 ·exact (show Tryz.prog.wantsStandIn 31 = false by kernel_rfl)
 ·exact (show Tryz.prog.wantsStandIn 34 = false by kernel_rfl)
 ·exact (show Tryz.prog.wantsStandIn 2 = false by kernel_rfl)
theorem beginTop_card : Rows.FnExactBeginTopCardSaid :=
 Claim7.holds_tied_plain_at .later [] _ _ _ _ beginTop_said (fun _ h => by cases h) (by kernel_rfl) (fun _ h => by cases h) fnExactBeginTop_row_tie rfl ⟨rfl, rfl⟩ (by kernel_rfl) rfl beginTop_plain (by kernel_rfl)
#print axioms beginTop_card
end Go.Proofs.YtnnabkldceklmaaGreatDoor
