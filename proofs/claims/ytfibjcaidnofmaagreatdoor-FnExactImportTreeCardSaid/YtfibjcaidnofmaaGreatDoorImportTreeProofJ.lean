/- FnExactImportTree returns true for every text: the program's ImportTree says what the reference's says. No condition; the listed tables are tied to the program's text. -/
import Derived.Test.YtfibjcaidnofmaaGreatDoorJoinITBx
import Derived.Test.YtfibjcaidnofmaaGreatDoorJoinITBc
import Derived.ChangeMaps5
import Derived.LaidLaws
namespace Go.Proofs.YtfibjcaidnofmaaGreatDoor
open Go.ChangeShapes Go.WideShapes Go.ChangeAt Go.RowKit
open Go.ChangeMaps (open_string shut_string)

theorem tabsIn_row {W : World} (h : laidMetH Tryz.prog Rows.fnExactImportTreeRow.laid W) : TabsIn W :=
  tabsIn_of (by rw [MakeChecks.laidMetH_plain _ _ _ (by kernel_rfl)]) (.tail _ (.tail _ (.head _))) h
theorem errIn_of_reads {W : World} {name : String} {g : Nat} {nm : String} {d : DataW Unit} (hg : Tryz.prog.globalNamed name = some g) (hty : (Tryz.prog.globals[g]?).map (·.type) = some 84)
    (h : Lib.VarReads Tryz.prog W name (.iface nm d)) : ErrIn W g := by
  obtain ⟨g', t', cs, fuel, p, hg', ht', hvar, hd⟩ := h
  obtain rfl := Option.some.inj (hg.symm.trans hg')
  obtain rfl := Option.some.inj (hty.symm.trans ht')
  obtain ⟨_, u, v, hcs, _, _⟩ := iface_of_trod Tryz.underlying84 hd
  have hc := World.var?_cell hg hvar 0
  have h0 : cs[0]? = some (.iface u v) := by
    rw [← Array.getElem?_toList, hcs]; rfl
  exact ⟨_, hc.trans h0, .inr ⟨u, v, rfl⟩⟩
theorem errIn_of {W : World} (h : laidMetH Tryz.prog Rows.fnExactImportTreeRow.laid W) : ErrIn W 1 ∧ ErrIn W 2 := by
  rw [MakeChecks.laidMetH_plain _ _ _ (by kernel_rfl)] at h
  exact ⟨errIn_of_reads (by kernel_rfl) (by kernel_rfl) (Lib.laidMet.reads h (.tail _ (.tail _ (.tail _ (.tail _ (.tail _ (.head _))))))), errIn_of_reads (by kernel_rfl) (by kernel_rfl) (Lib.laidMet.reads h (.tail _ (.tail _ (.tail _ (.tail _ (.head _))))))⟩

set_option maxRecDepth 100000 in
/-- What the walk gives, for every argument. -/
theorem importTree_contract (H : Type) (enc : TypeId × Value → H) (W : World) (base : Nat) (args : Array Value) (ds gs : List (DataW H)) (before : List MemPlace)
    (hval : ∀ (j : Nat) t v, Tryz.f4.params[j]? = some t → args[j]? = some v → Value.okWide Tryz.prog W .any base t v)
    (hW : DataW.Whole enc Tryz.prog Tryz.f4.params.toList Rows.fnExactImportTreeSpec.vars false W args.toList ds gs before) (hL : laidMetH Tryz.prog Rows.fnExactImportTreeRow.laid W) (hsh : W.ShapedOpen Tryz.prog) :
    Calls Tryz.prog 4 args W fun e W' => ∃ v, e = .returned v ∧ Rows.fnExactImportTreeSpec.post enc Tryz.prog Tryz.f4 false true false false W args v W' := by
  have hW' := hW
  obtain ⟨p, q, hA0, hV, rfl, hfz, hnd⟩ := hW
  have hA : DataW.TrodAll enc Tryz.prog W 0 (fun _ => true) true Tryz.f4.params.toList args.toList ds p := hA0
  rw [Tryz.params4] at hA hval
  obtain ⟨v0, vs0, d0, ds0, p0, q0, hargs, rfl, rfl, h0, r0⟩ := trodAll_cons hA
  obtain ⟨rfl, rfl, rfl⟩ := trodAll_nil r0
  obtain rfl : args = #[v0] := by cases args; simp_all
  obtain ⟨rfl, rfl⟩ := trodVars_none hV
  obtain ⟨a1, rfl, rfl, rfl, w1⟩ := open_string Tryz.underlying9 (hval 0 9 v0 rfl rfl) h0
  clear hA0
  refine (law_ImportTree a1 W ⟨⟨tabsIn_row hL, maxLen_of hsh⟩, errIn_of hL⟩).mono fun e W' ⟨he, hg⟩ => ?_
  subst he
  exact ⟨_, rfl, law_post (tb := 4) rfl hW' rfl laid_out (fun t ht => by rw [Tryz.params4] at ht; simp at ht; subst ht; exact ⟨by kernel_rfl, of_decide_eq_true (by kernel_rfl)⟩) (by kernel_rfl) Tryz.underlying4 hg⟩

/-- A world for the witness: the listed tables hold what the row lists. -/
noncomputable def laidWorldR (os : Os) : World := World.laidAll Tryz.prog os Rows.fnExactImportTreeRow.laid
theorem laidR_met (os : Os) (args : Array Value) : laidMetH Tryz.prog Rows.fnExactImportTreeRow.laid ((laidWorldR os).forCall (fun _ _ => 0) ⟨#[], args, []⟩).memory := by
  rw [MakeChecks.laidMetH_plain _ _ _ (by kernel_rfl)]
  exact laidMet_laidAll _ (by kernel_rfl) (by kernel_rfl)
theorem importTree_reads (os : Os) {H : Type} (enc : TypeId × Value → H) : ∃ x, DataW.whole enc Tryz.prog ((laidWorldR os).forCall (fun _ _ => 0) ⟨#[], #[.string ⟨#[]⟩], []⟩).memory Tryz.f4.params.toList Rows.fnExactImportTreeSpec.vars false #[Value.string ⟨#[]⟩].toList 8 = some ([.lit (.string [])], [], x) :=
  ⟨[], by kernel_rfl⟩

set_option maxRecDepth 100000 in
theorem importTree_lifted (os : Os) (started : os.Started) (H : Type) (enc : TypeId × Value → H) (F : Stop.Interp) :
    ReturnsInHanded {} Tryz.checked os 4 .any ((OpenSpec.ofChange Rows.fnExactImportTreeSpec).preRow enc Tryz.prog Tryz.f4 Rows.fnExactImportTreeRow.domain false Rows.fnExactImportTreeRow.laid) (((OpenSpec.ofChange Rows.fnExactImportTreeSpec).at F).post enc Tryz.prog Tryz.f4 false true false false) := by
  obtain ⟨places, hx⟩ := importTree_reads os enc
  refine returnsInHanded_of_row (C := Tryz.checked) (s := OpenSpec.ofChange Rows.fnExactImportTreeSpec) own_knob started (by kernel_rfl) Tryz.func4
    (witness_row_at (enc := enc) (C := Tryz.checked) false (laidWorldR os) #[.string ⟨#[]⟩] (World.laidAll_os _ _ _) (by kernel_rfl) (by kernel_rfl) (by kernel_rfl)
      (OpenSpec.preRow_of_cond 8 hx (by kernel_rfl) (fun k hk => by cases hk) (by kernel_rfl) (laidR_met os _))) ?_
  intro W base args ds gs before hval hW _ _ _ hL hsh _
  exact importTree_contract H enc W base args ds gs before hval hW hL hsh

theorem importTree_said : Rows.FnExactImportTreeSaid :=
  OpenClaim.holds_of_cond 4 Tryz.f4 rfl rfl rfl rfl rfl rfl rfl ⟨rfl, rfl, rfl, rfl, rfl⟩ rfl rfl rfl rfl rfl (by kernel_rfl) Tryz.func4 (by kernel_rfl)
    (of_decide_eq_true (by kernel_rfl)) (by unfold Func.isWrapper; first | (rw [if_pos (by decide +kernel)]; kernel_rfl) | (rw [if_neg (by decide +kernel)]; exact ⟨rfl, rfl⟩))
    (fun os started H enc _ F => by rw [OpenClaim.pre_eq_preRow]; exact importTree_lifted os started H enc F)

theorem importTree_plain (f : FuncId) (fn : Func) (hf : Tryz.pinned.checked.prog.funcNamed "loop.example/g00874/laws.FnExactImportTree" = some f) (hfn : Tryz.pinned.checked.prog.funcs[f]? = some fn) :
    true = Tryz.pinned.checked.prog.looks [] ∧ ∀ (j : Nat) t, fn.params[j]? = some t → Tryz.pinned.checked.prog.wantsStandIn t = false := by
  obtain rfl : f = 4 := Option.some.inj ((show Tryz.prog.funcNamed "loop.example/g00874/laws.FnExactImportTree" = some 4 by kernel_rfl).symm.trans hf) |>.symm
  obtain rfl : fn = Tryz.f4 := (Option.some.inj (Tryz.func4.symm.trans hfn)).symm
  refine ⟨by kernel_rfl, fun j t ht => ?_⟩
  rw [Tryz.params4] at ht
  have hm := Array.mem_of_getElem? ht
  simp at hm
  subst hm
  exact (show Tryz.prog.wantsStandIn 9 = false by kernel_rfl)

theorem importTree_card : Rows.FnExactImportTreeCardSaid :=
  Claim7.holds_tied_plain_at .later [] _ _ _ _ importTree_said (fun _ h => by cases h) (by kernel_rfl) (fun _ h => by cases h) fnExactImportTree_row_tie rfl ⟨rfl, rfl⟩ (by kernel_rfl) rfl importTree_plain (by kernel_rfl)
#print axioms importTree_card

end Go.Proofs.YtfibjcaidnofmaaGreatDoor
