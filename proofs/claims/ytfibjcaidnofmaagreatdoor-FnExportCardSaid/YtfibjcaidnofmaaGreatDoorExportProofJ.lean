/- FnExport returns true for all bytes: a tree comes back from its text and from its binary form, and what is read has just its text. No condition; the listed tables are tied to the program's text. -/
import Derived.Test.YtfibjcaidnofmaaGreatDoorJoinEXBt
import Derived.Test.YtfibjcaidnofmaaGreatDoorJoinEXBi
import Derived.ChangeMaps5
import Derived.LaidLaws
namespace Go.Proofs.YtfibjcaidnofmaaGreatDoor
open Go.ChangeShapes Go.WideShapes Go.ChangeAt Go.RowKit

theorem wf_byte {n : Int} (h : (Lit.int .u8 n).wf = true) : ∃ z : Nat, z ≤ 255 ∧ n = z := by
  simp [Lit.wf, IntKind.min, IntKind.max, IntKind.signed, IntKind.bits] at h
  exact ⟨n.toNat, by omega, by omega⟩

theorem open_bytesR {H : Type} {enc : TypeId × Value → H} {P : Program} {w : World} {base : Nat} {held : Bool} {t e : TypeId} {fuel : Nat} {cs : List Value} {x : DataW H × List MemPlace} (ht : P.underlying t = some (.slice e)) (he : P.underlying e = some (.int .u8)) (hc : P.cellsOf e = 1)
    (h : DataW.trod enc P w base (fun _ => true) held fuel t cs = some x) :
    ∃ (A : Option Addr) (n cap : Nat), cs = [.slice A n cap] ∧ BytesR w 0 w.heap.size A n := by
  rcases open_ints ht he hc h with ⟨rfl, _⟩ | ⟨a, len, cap, ss, rfl, _, hl, hm, hz, _, hcell, hws⟩
  · exact ⟨none, 0, 0, rfl, fun h => absurd h (Nat.lt_irrefl 0)⟩
  · simp only [if_true] at hz
    refine ⟨some a, len, cap, rfl, fun hpos => ?_⟩
    have h0 := block_of_cell (hcell 0 (by omega))
    have ha : a.add 0 = a := by simp [Addr.add]
    rw [ha] at h0
    obtain ⟨ab, ao, asp⟩ := a
    obtain ⟨h1, h2⟩ := h0
    simp only at h1 h2
    subst h2
    refine ⟨ab, ao, rfl, by omega, h1, fun j hj => ?_⟩
    have hj' := hcell j (by omega)
    have hadd : (⟨ab, ao, none⟩ : Addr).add j = ⟨ab, ao + j, none⟩ := by unfold Addr.add; split <;> simp_all
    rw [hadd] at hj'
    have hjs : j < ss.length := by omega
    obtain ⟨z, hz1, hz2⟩ := wf_byte (hws ss[j] (List.getElem_mem hjs))
    refine ⟨z, hz1, hj'.trans ?_⟩
    rw [List.getD_eq_getElem?_getD, List.getElem?_eq_getElem hjs, Option.getD_some, hz2]

theorem bytes_cells : Tryz.prog.cellsOf 5 = 1 := by kernel_rfl

theorem tabsIn_row {W : World} (h : laidMetH Tryz.prog Rows.fnExportRow.laid W) : TabsIn W :=
  tabsIn_of (by rw [MakeChecks.laidMetH_plain _ _ _ (by kernel_rfl)]) (.tail _ (.tail _ (.head _))) h
theorem errIn_of_reads {W : World} {name : String} {g : Nat} {nm : String} {d : DataW Unit} (hg : Tryz.prog.globalNamed name = some g) (hty : (Tryz.prog.globals[g]?).map (·.type) = some 84)
    (h : Lib.VarReads Tryz.prog W name (.iface nm d)) : ErrIn W g := by
  obtain ⟨g', t', cs, fuel, p, hg', ht', hvar, hd⟩ := h
  obtain rfl := Option.some.inj (hg.symm.trans hg')
  obtain rfl := Option.some.inj (hty.symm.trans ht')
  obtain ⟨_, u, v, hcs, _, _⟩ := iface_of_trod Tryz.underlying84 hd
  have hc := World.var?_cell hg hvar 0
  have h0 : cs[0]? = some (.iface u v) := by
    rw [← Array.getElem?_toList, hcs]; rfl
  exact ⟨_, hc.trans h0, .inr ⟨u, v, rfl⟩⟩
theorem errIn_of {W : World} (h : laidMetH Tryz.prog Rows.fnExportRow.laid W) : ErrIn W 1 ∧ ErrIn W 2 := by
  rw [MakeChecks.laidMetH_plain _ _ _ (by kernel_rfl)] at h
  exact ⟨errIn_of_reads (by kernel_rfl) (by kernel_rfl) (Lib.laidMet.reads h (.tail _ (.tail _ (.tail _ (.tail _ (.tail _ (.head _))))))), errIn_of_reads (by kernel_rfl) (by kernel_rfl) (Lib.laidMet.reads h (.tail _ (.tail _ (.tail _ (.tail _ (.head _))))))⟩

set_option maxRecDepth 100000 in
/-- What the walk gives, for every argument. -/
theorem drawnExport_contract (H : Type) (enc : TypeId × Value → H) (W : World) (base : Nat) (args : Array Value) (ds gs : List (DataW H)) (before : List MemPlace)
    (hval : ∀ (j : Nat) t v, Tryz.f5.params[j]? = some t → args[j]? = some v → Value.okWide Tryz.prog W .any base t v)
    (hW : DataW.Whole enc Tryz.prog Tryz.f5.params.toList Rows.fnExportSpec.vars false W args.toList ds gs before) (hL : laidMetH Tryz.prog Rows.fnExportRow.laid W) (hsh : W.ShapedOpen Tryz.prog) :
    Calls Tryz.prog 5 args W fun e W' => ∃ v, e = .returned v ∧ Rows.fnExportSpec.post enc Tryz.prog Tryz.f5 false true false false W args v W' := by
  have hW' := hW
  obtain ⟨p, q, hA0, hV, rfl, hfz, hnd⟩ := hW
  have hA : DataW.TrodAll enc Tryz.prog W 0 (fun _ => true) true Tryz.f5.params.toList args.toList ds p := hA0
  rw [Tryz.params5] at hA hval
  obtain ⟨v0, vs0, d0, ds0, p0, q0, hargs, rfl, rfl, h0, r0⟩ := trodAll_cons hA
  obtain ⟨v1, vs1, d1, ds1, p1, q1, rfl, rfl, rfl, h1, r1⟩ := trodAll_cons r0
  obtain ⟨rfl, rfl, rfl⟩ := trodAll_nil r1
  obtain rfl : args = #[v0, v1] := by cases args; simp_all
  obtain ⟨rfl, rfl⟩ := trodVars_none hV
  obtain ⟨A0, n0, c0, rfl⟩ := okWide_slice Tryz.underlying22 (hval 0 22 v0 rfl rfl)
  obtain ⟨A1, n1, c1, rfl⟩ := okWide_slice Tryz.underlying22 (hval 1 22 v1 rfl rfl)
  obtain ⟨f0, hf0⟩ := h0
  obtain ⟨f1, hf1⟩ := h1
  obtain ⟨B0, m0, k0, e0, hb0⟩ := open_bytesR Tryz.underlying22 Tryz.underlying5 bytes_cells hf0
  obtain ⟨B1, m1, k1, e1, hb1⟩ := open_bytesR Tryz.underlying22 Tryz.underlying5 bytes_cells hf1
  simp [Value.cells] at e0 e1
  obtain ⟨rfl, rfl, rfl⟩ := e0
  obtain ⟨rfl, rfl, rfl⟩ := e1
  clear hA0
  refine (law_Export A0 A1 n0 c0 n1 c1 W hb0 hb1 ⟨⟨tabsIn_row hL, maxLen_of hsh⟩, errIn_of hL⟩).mono fun e W' ⟨he, hg⟩ => ?_
  subst he
  exact ⟨_, rfl, law_post (tb := 4) rfl hW' rfl laid_out (fun t ht => by rw [Tryz.params5] at ht; simp at ht; subst ht; exact ⟨by kernel_rfl, of_decide_eq_true (by kernel_rfl)⟩) (by kernel_rfl) Tryz.underlying4 hg⟩

/-- A world for the witness: the listed tables hold what the row lists. -/
noncomputable def laidWorldR (os : Os) : World := World.laidAll Tryz.prog os Rows.fnExportRow.laid
theorem laidR_met (os : Os) (args : Array Value) : laidMetH Tryz.prog Rows.fnExportRow.laid ((laidWorldR os).forCall (fun _ _ => 0) ⟨#[], args, []⟩).memory := by
  rw [MakeChecks.laidMetH_plain _ _ _ (by kernel_rfl)]
  exact laidMet_laidAll _ (by kernel_rfl) (by kernel_rfl)
theorem witness_reads (os : Os) {H : Type} (enc : TypeId × Value → H) : ∃ places, DataW.whole enc Tryz.prog ((laidWorldR os).forCall (fun _ _ => 0) ⟨#[], #[.slice none 0 0, .slice none 0 0], []⟩).memory Tryz.f5.params.toList Rows.fnExportSpec.vars false #[Value.slice none 0 0, Value.slice none 0 0].toList 8 = some ([.nil, .nil], [], places) :=
  ⟨[], by kernel_rfl⟩

set_option maxRecDepth 100000 in
theorem drawnExport_lifted (os : Os) (started : os.Started) (H : Type) (enc : TypeId × Value → H) (F : Stop.Interp) :
    ReturnsInHanded {} Tryz.checked os 5 .any ((OpenSpec.ofChange Rows.fnExportSpec).preRow enc Tryz.prog Tryz.f5 Rows.fnExportRow.domain false Rows.fnExportRow.laid) (((OpenSpec.ofChange Rows.fnExportSpec).at F).post enc Tryz.prog Tryz.f5 false true false false) := by
  obtain ⟨places, hx⟩ := witness_reads os enc
  refine returnsInHanded_of_row (C := Tryz.checked) (s := OpenSpec.ofChange Rows.fnExportSpec) own_knob started (by kernel_rfl) Tryz.func5
    (witness_row_at (enc := enc) (C := Tryz.checked) false (laidWorldR os) #[.slice none 0 0, .slice none 0 0] (World.laidAll_os _ _ _) (by kernel_rfl) (by kernel_rfl) (by kernel_rfl)
      (OpenSpec.preRow_of_cond 8 hx (by kernel_rfl) (fun k hk => by cases hk) (by kernel_rfl) (laidR_met os _))) ?_
  intro W base args ds gs before hval hW _ _ _ hL hsh _
  exact drawnExport_contract H enc W base args ds gs before hval hW hL hsh

theorem drawnExport_said : Rows.FnExportSaid :=
  OpenClaim.holds_of_cond 5 Tryz.f5 rfl rfl rfl rfl rfl rfl rfl ⟨rfl, rfl, rfl, rfl, rfl⟩ rfl rfl rfl rfl rfl (by kernel_rfl) Tryz.func5 (by kernel_rfl)
    (of_decide_eq_true (by kernel_rfl)) (by unfold Func.isWrapper; first | (rw [if_pos (by decide +kernel)]; kernel_rfl) | (rw [if_neg (by decide +kernel)]; exact ⟨rfl, rfl⟩))
    (fun os started H enc _ F => by rw [OpenClaim.pre_eq_preRow]; exact drawnExport_lifted os started H enc F)

theorem drawnExport_plain (f : FuncId) (fn : Func) (hf : Tryz.pinned.checked.prog.funcNamed "loop.example/g00874/laws.FnExport" = some f) (hfn : Tryz.pinned.checked.prog.funcs[f]? = some fn) :
    true = Tryz.pinned.checked.prog.looks [] ∧ ∀ (j : Nat) t, fn.params[j]? = some t → Tryz.pinned.checked.prog.wantsStandIn t = false := by
  obtain rfl : f = 5 := Option.some.inj ((show Tryz.prog.funcNamed "loop.example/g00874/laws.FnExport" = some 5 by kernel_rfl).symm.trans hf) |>.symm
  obtain rfl : fn = Tryz.f5 := (Option.some.inj (Tryz.func5.symm.trans hfn)).symm
  refine ⟨by kernel_rfl, fun j t ht => ?_⟩
  rw [Tryz.params5] at ht
  obtain rfl : t = 22 := by simpa using Array.mem_of_getElem? ht
  exact (show Tryz.prog.wantsStandIn 22 = false by kernel_rfl)

theorem drawnExport_card : Rows.FnExportCardSaid :=
  Claim7.holds_tied_plain_at .later [] _ _ _ _ drawnExport_said (fun _ h => by cases h) (by kernel_rfl) (fun _ h => by cases h) fnExport_row_tie rfl ⟨rfl, rfl⟩ (by kernel_rfl) rfl drawnExport_plain (by kernel_rfl)
#print axioms drawnExport_card

end Go.Proofs.YtfibjcaidnofmaaGreatDoor
