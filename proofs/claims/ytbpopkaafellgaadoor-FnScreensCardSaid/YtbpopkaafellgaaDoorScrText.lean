/- impl's ScreenText at a screen that is right: at most 21 bytes a row. -/
import Derived.Test.YtbpopkaafellgaaDoorScreenA
import Derived.Test.YtbpopkaafellgaaDoorShelfT
namespace Go.Proofs.YtbpopkaafellgaaDoor
open Go.RowKit

theorem trim_size (r : ByteArray) : (⟨(Lib.trimRightB r.data.toList 32).toArray⟩ : ByteArray).size ≤ r.size := by
  show (Lib.trimRightB r.data.toList 32).toArray.size ≤ r.data.size
  rw [List.size_toArray]
  unfold Lib.trimRightB
  rw [List.length_reverse]
  have := (List.dropWhile_sublist (fun b : UInt8 => b == 32) (l := r.data.toList.reverse)).length_le
  simpa using this

set_option maxHeartbeats 4000000 in
set_option maxRecDepth 100000 in
theorem screenText_any (s : Scr) (v : Value) (lo hi : Nat) (w : World) (hx : ScrR w lo hi v s) (hhi : hi ≤ w.heap.size) (hs : ScrSmall s) (hb : scrB s = true) :
    Calls Tryd.prog 11 #[v] w fun e w' => ∃ t : ByteArray, t.size ≤ 126 ∧ e = .returned (.string t) ∧ Below w.heap.size w w' := by
  obtain ⟨A, c, rfl, hr⟩ := hx
  have hf := Fine.of_scrB hb
  have HLEN := Lib.hid hf.len
  have HF := Lib.hid hf
  have HO := Lib.hid (fun W h => implScreenOk_any s (.agg #[.int .i64 s.row, .int .i64 s.col, .slice A s.rows.length c]) lo hi W ⟨A, c, rfl, h⟩)
  have HR := Lib.hid hr
  have HS := Lib.hid hs; have HB := Lib.hid hb
  clear hf hr hs hb
  go_enter Tryd.func11, Tryd.ntmps11
  have hba := (Below.refl w.heap.size w).alloc (Nat.le_refl _) (.cells #[.int .i64 s.row, .int .i64 s.col, .slice A s.rows.length c] 26)
  have HBA := Lib.hid hba
  have HK := Lib.hid (Blk.new w 26 #[.int .i64 s.row, .int .i64 s.col, .slice A s.rows.length c])
  have HO1 := Lib.hid (HO.out _ (HR.out.below hba hhi) (by simp; omega) HS.out)
  clear hba HO
  have f := HK.out.cell
  go_wp2_with fail
  refine HO1.out.mono ?_
  rintro e1 w1 ⟨rfl, hb1⟩
  rw [HB.out]
  have HW1 := Lib.hid (HBA.out.trans (hb1.mono (by simp)))
  have f1 := (HK.out.below hb1 (by simp)).cell
  clear hb1 HO1 f
  go_wp2_with fail
  go_loopw [3, 4, 14] (fun a b i wr => ∃ k : Nat, k ≤ s.rows.length ∧ i = .int .i64 k ∧ ∃ x y : ByteArray, a = .string x ∧ b = .string y ∧ x.size + y.size ≤ 21 * k ∧ Below w.heap.size w wr) (fun _ _ i _ => s.rows.length - (intOf i).toNat)
  case atStart => exact ⟨0, Nat.zero_le _, rfl, ByteArray.empty, ByteArray.empty, rfl, rfl, Nat.le_refl _, HW1.out⟩
  case round =>
    obtain ⟨k, hk, rfl, x, y, rfl, rfl, hxy, hbw⟩ := hrel
    have HBW := Lib.hid hbw
    by_cases hlt : k < s.rows.length
    · obtain ⟨b, off, rfl, _, _, hc⟩ := (HR.out.below hbw hhi).at_ hlt
      have hsz : (s.rows.getD k ByteArray.empty).size = 20 := HF.out.size _ (by rw [List.getD_eq_getElem?_getD, List.getElem?_eq_getElem (by omega)]; exact List.getElem_mem _)
      have HSZ := Lib.hid hsz
      have HT := Lib.hid (Tryd.strings_TrimRight_one (s.rows.getD k ByteArray.empty) 32 (by decide) wr (by omega))
      have HTS := Lib.hid (trim_size (s.rows.getD k ByteArray.empty))
      clear hbw hsz
      have hk6 : k < 6 := by have := HLEN.out; omega
      have i1 : (k : Int) < (s.rows.length : Int) := by omega
      generalize hX : s.rows.getD k ByteArray.empty = X at *
      have hX20 : X.size = 20 := HSZ.out
      generalize (⟨(Lib.trimRightB X.data.toList 32).toArray⟩ : ByteArray) = T at *
      have hT20 : T.size ≤ 20 := by have := HTS.out; omega
      have HXY := Lib.hid hxy
      have hs1 : ((T ++ (⟨#[10]⟩ : ByteArray)).size) = T.size + 1 := by rw [ByteArray.size_append]; rfl
      clear hX HSZ HTS hX20
      go_wp2_with fail
      refine HT.out.mono ?_
      rintro e2 w2 ⟨rfl, rfl⟩
      clear HT
      go_wp2_with fail
      · go_roundw
        case rel =>
          refine ⟨k + 1, by omega, by go_num, _, _, rfl, rfl, ?_, HBW.out⟩
          rw [ByteArray.size_append, ByteArray.size_append, hs1]
          have : (⟨#[]⟩ : ByteArray).size = 0 := rfl
          omega
        case measure => simp [intOf]; omega
      · go_roundw
        case rel =>
          refine ⟨k + 1, by omega, by go_num, _, _, rfl, rfl, ?_, HBW.out⟩
          rw [ByteArray.size_append, hs1]
          omega
        case measure => simp [intOf]; omega
    · go_wp2_with fail
      go_ret
      exact ⟨x, by have := HLEN.out; omega, rfl, HBW.out⟩
end Go.Proofs.YtbpopkaafellgaaDoor
