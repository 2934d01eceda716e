/- Both sides' comparisons: what they answer, plainly. -/
import Derived.Test.YtfibjcaidnofmaaGreatDoorJoinITAt
import Derived.Test.YtfibjcaidnofmaaGreatDoorJoinITAj
import Derived.Test.YtfibjcaidnofmaaGreatDoorJoinITAl
import Derived.Test.YtfibjcaidnofmaaGreatDoorRows
import Derived.WalkKit
import Derived.ProofKit
import Derived.OpenShut
import Derived.ShutString
import Derived.Deep.Slices
import Derived.Deep.Fields
import Derived.ChangeSame
import Derived.SizedLaws
import Derived.Test.YtfibjcaidnofmaaGreatDoorJoinITAa
import Derived.SliceStrings
import Derived.Test.YtfibjcaidnofmaaGreatDoorJoinITAu
import Derived.Test.YtfibjcaidnofmaaGreatDoorCards
import Derived.Test.YtfibjcaidnofmaaGreatDoorTie
import Derived.Deep.DeepHandedRow
import Derived.Lay
import Derived.Lib.LaidTab
import Derived.Lib.LaidU8
import Derived.Shelf.Vars
namespace Go.Proofs.YtfibjcaidnofmaaGreatDoor
open Go.RowKit

section
variable {α : Type} {d : α} {xs ys : List α} {k : Nat}
theorem take_step (h : xs.take k = ys.take k) (hk : k < xs.length) (hl : xs.length = ys.length) (he : xs.getD k d = ys.getD k d) : xs.take (k + 1) = ys.take (k + 1) := by
  have h2 := List.take_succ_eq_append_getElem (l := ys) (i := k) (by omega)
  rw [List.take_succ_eq_append_getElem hk, h2, h]
  rw [List.getD_eq_getElem?_getD, List.getD_eq_getElem?_getD, List.getElem?_eq_getElem hk, List.getElem?_eq_getElem (by omega)] at he
  have h3 : xs[k] = ys[k] := by simpa using he
  rw [h3]
theorem take_all (h : xs.take xs.length = ys.take xs.length) (hl : xs.length = ys.length) : xs = ys := by
  rwa [List.take_length, hl, List.take_length] at h
theorem ne_of_len (h : ¬ xs.length = ys.length) : xs ≠ ys := fun e => h (by rw [e])
theorem ne_at (he : ¬ xs.getD k d = ys.getD k d) : xs ≠ ys := fun e => he (by rw [e])
end
/-- The two are the same. -/
noncomputable def sameB {α : Type} (x y : α) : Bool := @decide (x = y) (Classical.propDecidable _)
theorem same_f {α : Type} {x y : α} (h : ¬ x = y) : sameB x y = false := @decide_eq_false _ (Classical.propDecidable _) h
theorem same_t {α : Type} {x y : α} (h : x = y) : sameB x y = true := @decide_eq_true _ (Classical.propDecidable _) h
theorem nf {α β : Type} (f : α → β) {x y : α} {a : Bool} (h : Hid (a = sameB x y)) (hne : ¬ f x = f y) : Hid (a = false) := Lib.hid (h.out.trans (same_f fun e => hne (congrArg f e)))
theorem str_ne {x y : ByteArray} (h : ¬ x = y) : (x.toList == y.toList) = false := by
  rw [beq_eq_false_iff_ne]
  exact fun e => h (bytes_toList_inj.1 e)

end Go.Proofs.YtfibjcaidnofmaaGreatDoor

/- Comparisons of rows of texts and numbers, both sides. Printed by gen_same.py. -/
namespace Go.Proofs.YtfibjcaidnofmaaGreatDoor
open Go.RowKit
set_option maxHeartbeats 4000000 in
set_option maxRecDepth 100000 in
theorem l02Same_r (A B : Option Addr) (c d : Nat) (xs ys : List ByteArray) (lo hi lo' hi' : Nat) (w : World) (h : (Sh.row 9 shS).R w lo hi [.slice A xs.length c] xs) (h' : (Sh.row 9 shS).R w lo' hi' [.slice B ys.length d] ys) (hhi : hi ≤ w.heap.size) (hhi' : hi' ≤ w.heap.size) (hn : xs.length ≤ 4294967296) (_hm : ys.length ≤ 4294967296) :
    Calls Tryz.prog 36 #[.slice A xs.length c, .slice B ys.length d] w fun e w' => e = .returned (.bool (sameB xs ys)) ∧ Below w.heap.size w w' := by
  by_cases hl : xs.length = ys.length
  · have HA := Lib.hid h; have HA' := Lib.hid h'; have HL := Lib.hid hl
    rw [← hl] at HA' ⊢
    clear h h' _hm hl
    go_enter Tryz.func36, Tryz.ntmps36
    go_wp2_with fail
    go_loopw [5] (fun i wr => ∃ k : Nat, k ≤ xs.length ∧ i = .int .i64 k ∧ Hid (xs.take k = ys.take k) ∧ Below w.heap.size w wr) (fun i _ => xs.length - (intOf i).toNat)
    case atStart => exact ⟨0, Nat.zero_le _, rfl, Lib.hid rfl, Below.refl _ _⟩
    case round =>
      obtain ⟨k, hk, rfl, htk, hb⟩ := hrel
      by_cases hlt : k < xs.length
      · obtain ⟨b, off, rfl, hb1, hb2, us, hc, hX⟩ := row_at ((Sh.row 9 shS).R_below HA.out hb hhi) hlt
        obtain ⟨b', off', rfl, hb1', hb2', us', hc', hX'⟩ := row_at ((Sh.row 9 shS).R_below HA'.out hb hhi') hlt
        have HST := Lib.hid (fun he => take_step (d := shS.d) htk.out hlt HL.out he)
        have HNE := Lib.hid (fun he => ne_at (xs := xs) (ys := ys) (d := shS.d) (k := k) he)
        obtain rfl := (show us = [.string (xs.getD k shS.d)] from hX)
        obtain rfl := (show us' = [.string (ys.getD k shS.d)] from hX')
        have e1 := rng_one (rng_of hc); have e2 := rng_one (rng_of hc')
        simp only [show shS.k = 1 from rfl, Nat.mul_one] at e1 e2
        have HD := Lib.hid hb.drew
        clear hc hc' hX hX' htk
        generalize xs.getD k shS.d = X at *
        generalize ys.getD k shS.d = Y at *
        go_upto_region 6 with fail
        refine AnyT.region (fun _ => false) (fun W => W.cell? ⟨b, off + k, none⟩ = some (.string X) ∧ W.cell? ⟨b', off' + k, none⟩ = some (.string Y)) (by kernel_rfl) ⟨e1, e2⟩ (fun hHeld => ?_)
        generalize wr.drew = w4 at *
        clear e1 e2
        ((refine AnyT.takeAny 0 17 ?_ rfl (by kernel_rfl) (by kernel_rfl) (by kernel_rfl) rfl rfl (fun _ _ _ _ h => h) rfl ?_ (by assumption) ?_); rotate_left; (intro w; go_simp; (try (with_reducible rfl))); simp only [Act.put, List.setIfInBounds_toArray, List.set_cons_zero, List.set_cons_succ])
        ((refine AnyT.takeAny 1 18 ?_ rfl (by kernel_rfl) (by kernel_rfl) (by kernel_rfl) rfl rfl (fun _ _ _ _ h => h) rfl ?_ (by assumption) ?_); rotate_left; (intro w; go_simp; (try (with_reducible rfl))); simp only [Act.put, List.setIfInBounds_toArray, List.set_cons_zero, List.set_cons_succ])
        ((refine AnyT.takeAny 2 19 ?_ rfl (by kernel_rfl) (by kernel_rfl) (by kernel_rfl) rfl rfl (fun _ _ _ _ h => h) rfl ?_ (by assumption) ?_); rotate_left; (intro w; go_simp; (try (with_reducible rfl))); simp only [Act.put, List.setIfInBounds_toArray, List.set_cons_zero, List.set_cons_succ])
        ((refine AnyT.take 3 20 ?_ rfl (by kernel_rfl) (by kernel_rfl) (by kernel_rfl) (by kernel_rfl) rfl (by kernel_rfl) rfl (fun _ _ _ _ h => h) rfl ?_ (by assumption) ?_); rotate_left; (intro w hSw; (try dsimp only at hSw); go_simp; (try (with_reducible rfl))); simp only [Act.put, List.setIfInBounds_toArray, List.set_cons_zero, List.set_cons_succ])
        ((refine AnyT.takeAny 4 21 ?_ rfl (by kernel_rfl) (by kernel_rfl) (by kernel_rfl) rfl rfl (fun _ _ _ _ h => h) rfl ?_ (by assumption) ?_); rotate_left; (intro w; go_simp; (try (with_reducible rfl))); simp only [Act.put, List.setIfInBounds_toArray, List.set_cons_zero, List.set_cons_succ])
        ((refine AnyT.takeAny 5 22 ?_ rfl (by kernel_rfl) (by kernel_rfl) (by kernel_rfl) rfl rfl (fun _ _ _ _ h => h) rfl ?_ (by assumption) ?_); rotate_left; (intro w; go_simp; (try (with_reducible rfl))); simp only [Act.put, List.setIfInBounds_toArray, List.set_cons_zero, List.set_cons_succ])
        ((refine AnyT.takeAny 6 23 ?_ rfl (by kernel_rfl) (by kernel_rfl) (by kernel_rfl) rfl rfl (fun _ _ _ _ h => h) rfl ?_ (by assumption) ?_); rotate_left; (intro w; go_simp; (try (with_reducible rfl))); simp only [Act.put, List.setIfInBounds_toArray, List.set_cons_zero, List.set_cons_succ])
        ((refine AnyT.take 7 24 ?_ rfl (by kernel_rfl) (by kernel_rfl) (by kernel_rfl) (by kernel_rfl) rfl (by kernel_rfl) rfl (fun _ _ _ _ h => h) rfl ?_ (by assumption) ?_); rotate_left; (intro w hSw; (try dsimp only at hSw); go_simp; (try (with_reducible rfl))); simp only [Act.put, List.setIfInBounds_toArray, List.set_cons_zero, List.set_cons_succ])
        ((refine AnyT.takeAny 8 25 ?_ rfl (by kernel_rfl) (by kernel_rfl) (by kernel_rfl) rfl rfl (fun _ _ _ _ h => h) rfl ?_ (by assumption) ?_); rotate_left; (intro w; go_simp; (try (with_reducible rfl))); simp only [Act.put, List.setIfInBounds_toArray, List.set_cons_zero, List.set_cons_succ])
        refine AnyT.done (by kernel_rfl) ?_ _
        clear hHeld
        by_cases hxy : X = Y
        · subst hxy
          have hq : (!X.toList == X.toList) = false := by simp
          (try rw [hq])
          go_wp2_with fail
          go_roundw
          case rel => exact ⟨k + 1, by omega, by go_num, Lib.hid (HST.out rfl), HD.out⟩
          case measure => simp [intOf]; omega
        · have hne := str_ne hxy
          have hne2 : (!X.toList == Y.toList) = true := by rw [hne]; rfl
          have HF := Lib.hid (same_f (HNE.out hxy))
          clear hxy HST HNE
          (try rw [hne2])
          go_wp2_with fail
          go_ret
          exact ⟨by rw [HF.out]; rfl, HD.out⟩
      · obtain rfl : k = xs.length := by omega
        have HB := Lib.hid hb; have HT := Lib.hid (same_t (take_all htk.out HL.out)); clear hb htk
        go_wp2_with fail
        go_ret
        exact ⟨by rw [HT.out]; rfl, HB.out⟩
  · have hf := Lib.hid (same_f (ne_of_len hl))
    have n1 : ((xs.length : Int) == (ys.length : Int)) = false := by rw [beq_eq_false_iff_ne]; omega
    have n2 : ((xs.length : Int) != (ys.length : Int)) = true := by rw [bne_iff_ne]; omega
    clear hl h h'
    go_enter Tryz.func36, Tryz.ntmps36
    go_wp2_with fail
    go_ret
    exact ⟨by rw [hf.out]; rfl, Below.refl _ _⟩

end Go.Proofs.YtfibjcaidnofmaaGreatDoor

/- From the walk of a law to its row: a law that returns true and leaves what was there as it was. -/
namespace Go.Proofs.YtfibjcaidnofmaaGreatDoor
open Go.ChangeShapes Go.WideShapes Go.ChangeAt Go.RowKit

theorem own_knob : ownKnob Tryz.prog.godebug = none := by kernel_rfl
theorem laid_out : laidOutB Tryz.prog = true := by kernel_rfl

theorem trodAll_below {H : Type} {enc : TypeId × Value → H} {P : Program} (hl : laidOutB P = true) {W W' : World} (hb : Below W.heap.size W W') :
    ∀ (ts : List TypeId) (vs : List Value) (ds : List (DataW H)) (ps : List MemPlace), (∀ t ∈ ts, P.readableRec t = true ∧ t < P.types.size) → (∀ x ∈ ps, x.block < W.heap.size) →
    DataW.TrodAll enc P W 0 (fun _ => true) true ts vs ds ps → DataW.TrodAll enc P W' 0 (fun b => decide (b < W.heap.size)) true ts vs ds ps
  | [], [], [], _, _, _, h => h
  | t :: ts, v :: vs, d :: ds, ps, hr, hlt, h => by
    obtain ⟨p, q, h1, h2, rfl⟩ := h
    exact ⟨p, q, Below.trod hl (hr t (by simp)).1 (hr t (by simp)).2 h1 hb (fun x hx => hlt x (by simp [hx])),
      trodAll_below hl hb ts vs ds q (fun t ht => hr t (by simp [ht])) (fun x hx => hlt x (by simp [hx])) h2, rfl⟩
  | [], [], _ :: _, _, _, _, h => h.elim
  | [], _ :: _, _, _, _, _, h => h.elim
  | _ :: _, [], _, _, _, _, h => h.elim
  | _ :: _, _ :: _, [], _, _, _, h => h.elim

/-- The row's end of a law. -/
theorem law_post {H : Type} {enc : TypeId × Value → H} {P : Program} {f : Func} {s : ChangeSpec} {W W' : World} {args : Array Value} {ds gs : List (DataW H)} {before : List MemPlace} {tb : TypeId}
    (hvars : s.vars = []) (hW : DataW.Whole enc P f.params.toList s.vars false W args.toList ds gs before)
    (hfn : s.fn H (ds ++ gs) = { results := [.lit (.bool true)], args := ds }) (hl : laidOutB P = true) (hr : ∀ t ∈ f.params.toList, P.readableRec t = true ∧ t < P.types.size)
    (hrt : f.resultTypes = #[tb]) (htb : P.underlying tb = some .bool) (hb : Below W.heap.size W W') :
    s.post enc P f false true false false W args (.bool true) W' := by
  have hW' := hW
  have hlt : ∀ p ∈ before, p.block < W.heap.size := fun p hp => hW.lt p hp
  obtain ⟨p, q, hA, hV, rfl, hfz, hnd⟩ := hW
  rw [hvars] at hV
  obtain ⟨rfl, rfl⟩ := trodVars_none hV
  refine ⟨ds, [], p ++ [], [], p, [], hW', ?_, ?_, ?_, hb.frame _, fun h => by cases h⟩
  · rw [hfn, hrt]
    exact trodAll_cons_mk (shut_bool htb _) trodAll_mk0
  · rw [hfn]
    exact trodAll_below hl hb _ _ _ _ hr (fun x hx => hlt x (by simp [hx])) hA
  · rw [hfn, hvars]; rfl

end Go.Proofs.YtfibjcaidnofmaaGreatDoor

/- From the row's reading of an argument to the words of Mem: texts, lists of texts, lists of numbers, structs. -/
namespace Go.Proofs.YtfibjcaidnofmaaGreatDoor
open Go.ChangeShapes Go.WideShapes Go.ChangeAt Go.RowKit

section
variable {H : Type} {enc : TypeId × Value → H} {P : Program} {w : World} {base : Nat} {held : Bool}

end

end Go.Proofs.YtfibjcaidnofmaaGreatDoor

/- What a tied card's list of tables gives: the table that strconv reads; what package bytealg holds. -/
namespace Go.Proofs.YtfibjcaidnofmaaGreatDoor
open Go.ChangeShapes Go.WideShapes Go.ChangeAt Go.RowKit

theorem tabIs_of_reads {P : Program} {W : World} {name : String} {k : IntKind} {zs : List Int} {g : Nat} {t e : TypeId} {n : Nat}
    (hg : P.globalNamed name = some g) (hty : (P.globals[g]?).map (·.type) = some t) (ht : P.underlying t = some (.array n e)) (he : P.underlying e = some (.int k)) (hce : P.cellsOf e = 1) (hct : P.cellsOf t = n)
    (h : Lib.VarReads P W name (Lib.tabData k zs)) : Lib.TabIs P W name k zs := by
  obtain ⟨g', t', cs, fuel, p, hg', ht', hvar, hd⟩ := h
  obtain rfl := Option.some.inj (hg.symm.trans hg')
  obtain rfl := Option.some.inj (hty.symm.trans ht')
  unfold Lib.TabIs
  rw [hvar, ← Lib.cells_of_tab ht he hce hct hd]

theorem pow10_data : (Rows.laid_internal_strconv_uint64pow10 : DataW Unit) = Lib.tabData .u64 Lib.pow10Tab := by kernel_rfl
/-- What a row's list gives. -/
theorem tabsIn_of {L : List (String × DataW Unit)} {W : World} (hp : laidMetH Tryz.prog L W ↔ laidMet Tryz.prog L W) (hm : ("internal/strconv.uint64pow10", Rows.laid_internal_strconv_uint64pow10) ∈ L) (h : laidMetH Tryz.prog L W) : TabsIn W := by
  have h' := hp.1 h
  exact tabIs_of_reads (g := 3) (t := 194) (e := 107) (n := 20) (by kernel_rfl) (by kernel_rfl) Tryz.underlying194 Tryz.underlying107 (by kernel_rfl) (by kernel_rfl)
    (by have := Lib.laidMet.reads h' hm; rw [pow10_data] at this; exact this)

theorem maxLen_of {W : World} (h : W.ShapedOpen Tryz.prog) : ∃ m, W.cell? ⟨0, 0, none⟩ = some (.int .i64 m) :=
  cell_of_shapedOpen_int (t := 3) (zero := #[.int .i64 0]) h (of_decide_eq_true (by kernel_rfl)) (by kernel_rfl) rfl (by kernel_rfl) (by kernel_rfl) Tryz.underlying3
end Go.Proofs.YtfibjcaidnofmaaGreatDoor
