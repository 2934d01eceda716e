/- FnExactSitesActOk returns true for every operation of two sites: the program's SitesActOk says what the reference's says, and leaves its argument alone. No condition. -/
import Derived.Test.YtcfmgmbolnifgaaSitesActLaw
import Derived.Test.YtcfmgmbolnifgaaOpenAct
namespace Go.Proofs.Ytcfmgmbolnifgaa
open Go.ChangeShapes Go.WideShapes Go.ChangeAt Go.RowKit

theorem sactFields : ∃ fs, Try.prog.underlying 37 = some (.struct fs) ∧ fs.toList.map (fun f => (f.type, f.offset)) = [(2, 0), (2, 1), (29, 2)] := ⟨_, Try.underlying37, by kernel_rfl⟩
theorem cellsSAct : Try.prog.cellsOf 37 = 9 := by kernel_rfl

theorem two_first {α : Type} {l : List α} (h : 2 ≤ l.length) : ∃ a b t, l = a :: b :: t := by
  cases l with
  | nil => simp at h
  | cons a l =>
    cases l with
    | nil => simp at h
    | cons b t => exact ⟨a, b, t, rfl⟩
theorem agg_two {l : List Value} {c : Array Value} (a b : Value) (h : Value.agg l.toArray = Value.agg c) : Value.agg (a :: b :: l).toArray = Value.agg (a :: b :: c.toList).toArray := by
  have h1 := Value.agg.inj h
  subst h1
  rfl

theorem open_sact {H : Type} {enc : TypeId × Value → H} {w : World} {base : Nat} {held : Bool} {fuel : Nat} {cs : List Value} {x : DataW H × List MemPlace}
    (h : DataW.trod enc Try.prog w base (fun _ => true) held fuel 37 cs = some x) : ∃ (kind at_ : Int) (y : Act), SActR w 0 w.heap.size (.agg cs.toArray) kind at_ y ∧ ActReach y := by
  obtain ⟨fs, hu, hfs⟩ := sactFields
  obtain ⟨xs, n, _, _, hlen, hxl, hg⟩ := DataW.trod_struct hu h
  rw [cellsSAct] at hlen
  obtain ⟨a0, a1, l7, rfl⟩ := two_first (l := cs) (by omega)
  have F := field_of hfs hxl hg
  obtain ⟨y0, t0⟩ := F 0 _ _ rfl
  obtain ⟨y1, t1⟩ := F 1 _ _ rfl
  obtain ⟨y2, t2⟩ := F 2 _ _ rfl
  rw [cells_int64] at t0 t1
  rw [cellsAct] at t2
  have hl7 : l7.length = 7 := by simpa using hlen
  simp only [List.drop_zero, List.drop_succ_cons, List.take_succ_cons, List.take_zero] at t0 t1 t2
  rw [List.take_of_length_le (by omega)] at t2
  obtain ⟨kind, e0, _⟩ := open_i64 Try.underlying2 t0
  obtain ⟨at_, e1, _⟩ := open_i64 Try.underlying2 t1
  simp only [List.cons.injEq, and_true] at e0 e1
  subst e0 e1
  obtain ⟨y, ⟨A, c, B, d, C, e, hv, h1, h2, h3⟩, hr⟩ := open_act t2
  refine ⟨kind, at_, y, ⟨A, c, B, d, C, e, ?_, h1, h2, h3⟩, hr⟩
  exact agg_two _ _ hv

set_option maxRecDepth 100000 in
theorem sitesActOk_lifted (os : Os) (started : os.Started) (H : Type) (enc : TypeId × Value → H) :
    ReturnsInHanded {} Try.checked os 5 .any (Rows.fnExactSitesActOkSpec.pre6 enc Try.prog Try.f5 Rows.fnExactSitesActOkRow.domain false) (Rows.fnExactSitesActOkSpec.post enc Try.prog Try.f5 false true false false) := by
  refine returnsInHanded_of_change (C := Try.checked) own_knob started (by kernel_rfl) Try.func5
    (ChangeSpec.witness6 (enc := enc) (C := Try.checked) false ⟨#[], #[.agg #[.int .i64 0, .int .i64 0, .int .i64 0, .int .i64 0, .string ByteArray.empty, .string ByteArray.empty, .slice none 0 0, .slice none 0 0, .slice none 0 0]], []⟩ 8 (by kernel_rfl) (by kernel_rfl) (by kernel_rfl) (by kernel_rfl)) ?_
  intro W base args ds gs before hval0 hW hcnd _
  have hval : ∀ (j : Nat) t v, Try.f5.params[j]? = some t → args[j]? = some v → Value.okWide Try.prog W .any base t v := hval0
  have hW' := hW
  obtain ⟨p, q, hA0, hV, rfl, hfz, hnd⟩ := hW
  have hA : DataW.TrodAll enc Try.prog W 0 (fun _ => true) true Try.f5.params.toList args.toList ds p := hA0
  rw [Try.params5] at hA hval
  obtain ⟨v0, vs0, d0, ds0, p0, q0, hargs, rfl, rfl, h0, r0⟩ := trodAll_cons hA
  obtain ⟨rfl, rfl, rfl⟩ := trodAll_nil r0
  obtain rfl : args = #[v0] := by cases args; simp_all
  obtain ⟨rfl, rfl⟩ := trodVars_none hV
  obtain ⟨cs, rfl, hsz⟩ := okWide_struct Try.underlying37 (hval 0 37 v0 rfl rfl)
  obtain ⟨fuel, hf⟩ := h0
  obtain ⟨kind, at_, y, hy, hyr⟩ := open_sact hf
  clear hA0 hval0
  refine (law_SitesActOk y kind at_ (.agg cs) W hy hyr).mono fun e W' ⟨he, hg⟩ => ?_
  subst he
  exact ⟨_, rfl, law_post (tb := 4) rfl hW' rfl laid_out (fun t ht => by rw [Try.params5] at ht; simp at ht; subst ht; exact ⟨by kernel_rfl, of_decide_eq_true (by kernel_rfl)⟩) (by kernel_rfl) Try.underlying4 hg⟩

theorem sitesActOk_holds : Rows.FnExactSitesActOkSaid :=
  OpenClaim.holds_of_wide 5 Try.f5 rfl rfl rfl rfl rfl rfl rfl ⟨rfl, rfl, rfl, rfl, rfl⟩ rfl rfl rfl rfl rfl (by kernel_rfl) Try.func5 (by kernel_rfl)
    (of_decide_eq_true (by kernel_rfl)) (by unfold Func.isWrapper; first | (rw [if_pos (by decide +kernel)]; kernel_rfl) | (rw [if_neg (by decide +kernel)]; exact ⟨rfl, rfl⟩))
    (fun os started H enc _ => sitesActOk_lifted os started H enc)
#print axioms sitesActOk_holds

end Go.Proofs.Ytcfmgmbolnifgaa
