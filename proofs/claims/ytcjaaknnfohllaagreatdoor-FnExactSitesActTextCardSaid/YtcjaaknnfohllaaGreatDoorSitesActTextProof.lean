/- FnExactSitesActText returns true for every operation of two sites: the program's SitesActText says what the reference's says, and leaves its argument alone. No condition; the listed tables are tied to the program's text. -/
import Derived.Test.YtcjaaknnfohllaaGreatDoorSitesActTextLaw
import Derived.Test.YtcjaaknnfohllaaGreatDoorOpenSat
import Derived.Test.YtcjaaknnfohllaaGreatDoorCardT
namespace Go.Proofs.YtcjaaknnfohllaaGreatDoor
open Go.ChangeShapes Go.WideShapes Go.ChangeAt Go.RowKit

theorem tabsIn_row {W : World} (h : laidMetH Tryz.prog Rows.fnExactSitesActTextRow.laid W) : TabsIn W :=
  tabsIn_of (by rw [MakeChecks.laidMetH_plain _ _ _ (by kernel_rfl)]) (.tail _ (.tail _ (.head _))) h

set_option maxRecDepth 100000 in
/-- What the walk gives, for every argument. -/
theorem sitesActText_contract (H : Type) (enc : TypeId × Value → H) (W : World) (base : Nat) (args : Array Value) (ds gs : List (DataW H)) (before : List MemPlace)
    (hval : ∀ (j : Nat) t v, Tryz.f3.params[j]? = some t → args[j]? = some v → Value.okWide Tryz.prog W .any base t v)
    (hW : DataW.Whole enc Tryz.prog Tryz.f3.params.toList Rows.fnExactSitesActTextSpec.vars false W args.toList ds gs before) (hL : laidMetH Tryz.prog Rows.fnExactSitesActTextRow.laid W) (hsh : W.ShapedOpen Tryz.prog) :
    Calls Tryz.prog 3 args W fun e W' => ∃ v, e = .returned v ∧ Rows.fnExactSitesActTextSpec.post enc Tryz.prog Tryz.f3 false true false false W args v W' := by
  have hW' := hW
  obtain ⟨p, q, hA0, hV, rfl, hfz, hnd⟩ := hW
  have hA : DataW.TrodAll enc Tryz.prog W 0 (fun _ => true) true Tryz.f3.params.toList args.toList ds p := hA0
  rw [Tryz.params3] at hA hval
  obtain ⟨v0, vs0, d0, ds0, p0, q0, hargs, rfl, rfl, h0, r0⟩ := trodAll_cons hA
  obtain ⟨rfl, rfl, rfl⟩ := trodAll_nil r0
  obtain rfl : args = #[v0] := by cases args; simp_all
  obtain ⟨rfl, rfl⟩ := trodVars_none hV
  obtain ⟨cs, rfl, hsz⟩ := okWide_struct Tryz.underlying27 (hval 0 27 v0 rfl rfl)
  obtain ⟨fuel, hf⟩ := h0
  obtain ⟨kind, at_, y, hy, hyr, hyk⟩ := open_sactM hf
  clear hA0
  refine (law_SitesActText y kind at_ (.agg cs) W hy hyr hyk ⟨tabsIn_row hL, maxLen_of hsh⟩).mono fun e W' ⟨he, hg⟩ => ?_
  subst he
  exact ⟨_, rfl, law_post (tb := 4) rfl hW' rfl laid_out (fun t ht => by rw [Tryz.params3] at ht; simp at ht; subst ht; exact ⟨by kernel_rfl, of_decide_eq_true (by kernel_rfl)⟩) (by kernel_rfl) Tryz.underlying4 hg⟩

/-- A world for the witness: the listed tables hold what the row lists. -/
noncomputable def laidWorldN (os : Os) : World := World.laidAll Tryz.prog os Rows.fnExactSitesActTextRow.laid
theorem laidN_met (os : Os) (args : Array Value) : laidMetH Tryz.prog Rows.fnExactSitesActTextRow.laid ((laidWorldN os).forCall (fun _ _ => 0) ⟨#[], args, []⟩).memory := by
  rw [MakeChecks.laidMetH_plain _ _ _ (by kernel_rfl)]
  exact laidMet_laidAll _ (by kernel_rfl) (by kernel_rfl)
theorem sitesActText_reads (os : Os) {H : Type} (enc : TypeId × Value → H) : ∃ x, DataW.whole enc Tryz.prog ((laidWorldN os).forCall (fun _ _ => 0) ⟨#[], #[.agg #[.int .i64 0, .int .i64 0, .int .i64 0, .int .i64 0, .string ⟨#[]⟩, .string ⟨#[]⟩, .slice none 0 0, .slice none 0 0, .slice none 0 0]], []⟩).memory Tryz.f3.params.toList Rows.fnExactSitesActTextSpec.vars false #[Value.agg #[.int .i64 0, .int .i64 0, .int .i64 0, .int .i64 0, .string ⟨#[]⟩, .string ⟨#[]⟩, .slice none 0 0, .slice none 0 0, .slice none 0 0]].toList 8 = some ([.agg [.lit (.int .i64 0), .lit (.int .i64 0), .agg [.lit (.int .i64 0), .lit (.int .i64 0), .lit (.string []), .lit (.string []), .nil, .nil, .nil]]], [], x) :=
  ⟨[], by kernel_rfl⟩

set_option maxRecDepth 100000 in
theorem sitesActText_lifted (os : Os) (started : os.Started) (H : Type) (enc : TypeId × Value → H) (F : Stop.Interp) :
    ReturnsInHanded {} Tryz.checked os 3 .any ((OpenSpec.ofChange Rows.fnExactSitesActTextSpec).preRow enc Tryz.prog Tryz.f3 Rows.fnExactSitesActTextRow.domain false Rows.fnExactSitesActTextRow.laid) (((OpenSpec.ofChange Rows.fnExactSitesActTextSpec).at F).post enc Tryz.prog Tryz.f3 false true false false) := by
  obtain ⟨places, hx⟩ := sitesActText_reads os enc
  refine returnsInHanded_of_row (C := Tryz.checked) (s := OpenSpec.ofChange Rows.fnExactSitesActTextSpec) own_knob started (by kernel_rfl) Tryz.func3
    (witness_row_at (enc := enc) (C := Tryz.checked) false (laidWorldN os) #[.agg #[.int .i64 0, .int .i64 0, .int .i64 0, .int .i64 0, .string ⟨#[]⟩, .string ⟨#[]⟩, .slice none 0 0, .slice none 0 0, .slice none 0 0]] (World.laidAll_os _ _ _) (by kernel_rfl) (by kernel_rfl) (by kernel_rfl)
      (OpenSpec.preRow_of_cond 8 hx (by kernel_rfl) (fun k hk => by cases hk) (by kernel_rfl) (laidN_met os _))) ?_
  intro W base args ds gs before hval hW _ _ _ hL hsh _
  exact sitesActText_contract H enc W base args ds gs before hval hW hL hsh

theorem sitesActText_said : Rows.FnExactSitesActTextSaid :=
  OpenClaim.holds_of_cond 3 Tryz.f3 rfl rfl rfl rfl rfl rfl rfl ⟨rfl, rfl, rfl, rfl, rfl⟩ rfl rfl rfl rfl rfl (by kernel_rfl) Tryz.func3 (by kernel_rfl)
    (of_decide_eq_true (by kernel_rfl)) (by unfold Func.isWrapper; first | (rw [if_pos (by decide +kernel)]; kernel_rfl) | (rw [if_neg (by decide +kernel)]; exact ⟨rfl, rfl⟩))
    (fun os started H enc _ F => by rw [OpenClaim.pre_eq_preRow]; exact sitesActText_lifted os started H enc F)

theorem sitesActText_plain (f : FuncId) (fn : Func) (hf : Tryz.pinned.checked.prog.funcNamed "loop.example/g00874/laws.FnExactSitesActText" = some f) (hfn : Tryz.pinned.checked.prog.funcs[f]? = some fn) :
    true = Tryz.pinned.checked.prog.looks [] ∧ ∀ (j : Nat) t, fn.params[j]? = some t → Tryz.pinned.checked.prog.wantsStandIn t = false := by
  obtain rfl : f = 3 := Option.some.inj ((show Tryz.prog.funcNamed "loop.example/g00874/laws.FnExactSitesActText" = some 3 by kernel_rfl).symm.trans hf) |>.symm
  obtain rfl : fn = Tryz.f3 := (Option.some.inj (Tryz.func3.symm.trans hfn)).symm
  refine ⟨by kernel_rfl, fun j t ht => ?_⟩
  rw [Tryz.params3] at ht
  have hm := Array.mem_of_getElem? ht
  simp at hm
  subst hm
  exact (show Tryz.prog.wantsStandIn 27 = false by kernel_rfl)

theorem sitesActText_card : Rows.FnExactSitesActTextCardSaid :=
  Claim7.holds_tied_plain_at .later [] _ _ _ _ sitesActText_said (fun _ h => by cases h) (by kernel_rfl) (fun _ h => by cases h) fnExactSitesActText_row_tie rfl ⟨rfl, rfl⟩ (by kernel_rfl) rfl sitesActText_plain (by kernel_rfl)
#print axioms sitesActText_card

end Go.Proofs.YtcjaaknnfohllaaGreatDoor
