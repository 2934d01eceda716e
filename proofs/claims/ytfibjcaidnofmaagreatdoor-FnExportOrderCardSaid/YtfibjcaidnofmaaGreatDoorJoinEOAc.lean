/- The reference's numbers walked: l01Digit, l00Min, l01Of. -/
import Derived.Test.YtfibjcaidnofmaaGreatDoorProg
import Derived.Test.YtfibjcaidnofmaaGreatDoorJoinEOAb
import Derived.Test.YtfibjcaidnofmaaGreatDoorJoinEOAa
import Derived.Deep.DeepCutAuto
import Derived.Deep.CutBlock
namespace Go.Proofs.YtfibjcaidnofmaaGreatDoor
open Go.RowKit

set_option maxHeartbeats 4000000 in
theorem l01DigitB_any (c : UInt8) (w : World) : Calls Tryz.prog 211 #[.int .u8 c.toNat] w fun e w' => e = .returned (.bool (isDig c)) ∧ w = w' := by
  have hd : isDig c = decide (48 ≤ c.toNat ∧ c.toNat ≤ 57) := rfl
  by_cases h1 : (48 : Int) ≤ (c.toNat : Int)
  · by_cases h2 : (c.toNat : Int) ≤ 57
    · rw [hd, decide_eq_true (by omega)]
      clear hd
      go_enter Tryz.func211, Tryz.ntmps211
      go_wp2_with fail
      go_ret
      exact ⟨rfl, rfl⟩
    · rw [hd, decide_eq_false (by omega)]
      clear hd
      go_enter Tryz.func211, Tryz.ntmps211
      go_wp2_with fail
      go_ret
      exact ⟨rfl, rfl⟩
  · rw [hd, decide_eq_false (by omega)]
    clear hd
    go_enter Tryz.func211, Tryz.ntmps211
    go_wp2_with fail
    go_ret
    exact ⟨rfl, rfl⟩

set_option maxHeartbeats 4000000 in
theorem l00Min_any (a b : Int) (w : World) : Calls Tryz.prog 228 #[.int .i64 a, .int .i64 b] w fun e w' => e = .returned (.int .i64 (min a b)) ∧ w = w' := by
  by_cases h : a < b
  · rw [show min a b = a by omega]
    go_enter Tryz.func228, Tryz.ntmps228
    go_wp2_with fail
    go_ret
    exact ⟨rfl, rfl⟩
  · rw [show min a b = b by omega]
    go_enter Tryz.func228, Tryz.ntmps228
    go_wp2_with fail
    go_ret
    exact ⟨rfl, rfl⟩

/-- A point stands behind the digits. -/
def pointB (l : List UInt8) : Bool := match behindOf l with
  | c :: _ => c == 46
  | [] => false
theorem cutP_snoc (l : List UInt8) (c : UInt8) : ∀ n, cutP n (l ++ [c]) = min (10 * cutP n l + dg c) 1000000000000 := by
  induction l with
  | nil => intro n; rw [List.nil_append, cutP_cons, cutP_nil, cutP_nil]
  | cons a l ih => intro n; rw [List.cons_append, cutP_cons, cutP_cons, ih]
theorem take_snoc' (l : List UInt8) (i : Nat) (c : UInt8) (h : l[i]? = some c) : l.take (i + 1) = l.take i ++ [c] := by
  rw [List.take_add_one, h]; rfl
theorem get_list (s : ByteArray) (i : Nat) (h : i < s.size) : s.data.toList[i]? = some s[i] := by
  rw [Array.getElem?_toList]
  exact Array.getElem?_eq_getElem h

set_option maxHeartbeats 8000000 in
set_option maxRecDepth 100000 in
theorem l01Of_any (s : ByteArray) (hs : s.size ≤ 1048576) (w : World) : Calls Tryz.prog 202 #[.string s] w fun e w' => e = .returned (.int .i64 (numOf s.data.toList)) ∧ Below w.heap.size w w' := by
  have hD := fun c W => l01DigitB_any c W
  have HD := Lib.hid hD; clear hD
  go_enter Tryz.func202, Tryz.ntmps202
  go_upto_block 0 with (fail)
  go_cut [3, 4] (fun a m wr => a = .int .i64 ((s.data.toList.takeWhile isSgn).length : Nat) ∧ m = .bool (negOf s.data.toList) ∧ Below w.heap.size w wr)
  case first =>
    go_wp2_with fail
    go_loopw [3, 4] (fun a m wr => ∃ i : Nat, i ≤ s.size ∧ a = .int .i64 i ∧ m = .bool ((s.data.toList.take i).count 45 % 2 == 1) ∧ (∀ c ∈ s.data.toList.take i, isSgn c = true) ∧ Below w.heap.size w wr) (fun a _ _ => s.size - (intOf a).toNat)
    case atStart => exact ⟨0, Nat.zero_le _, rfl, rfl, fun c h => by simp at h, Below.refl _ _⟩
    case round =>
      obtain ⟨i, hi, rfl, rfl, hsg, hbw⟩ := hrel
      have HSG := Lib.hid hsg; have HBW := Lib.hid hbw; clear hsg hbw
      generalize hneg : ((s.data.toList.take i).count 45 % 2 == 1) = neg at *
      have HNEG := Lib.hid hneg; clear hneg
      by_cases hlt : i < s.size
      · have i1 : (i : Int) < (s.size : Int) := by omega
        have i0 : (0 : Int) ≤ (i : Int) := by omega
        have HG := Lib.hid (get_list s i hlt)
        by_cases h43 : s[i] = 43
        · have HST := Lib.hid (span_step isSgn s.data.toList i s[i] HG.out HSG.out (by rw [h43]; decide))
          have q43 : ((s[i].toNat : Int) == 43) = true := by rw [h43]; rfl
          have q45 : ((s[i].toNat : Int) == 45) = false := by rw [h43]; rfl
          have HCN := Lib.hid (show ((s.data.toList.take (i + 1)).count 45 % 2 == 1) = neg by rw [take_snoc' _ _ _ HG.out, List.count_append, h43]; simpa using HNEG.out)
          clear h43
          go_wp2_with fail
          go_roundw
          case rel => exact ⟨i + 1, by omega, by go_num, by rw [HCN.out], HST.out, HBW.out⟩
          case measure => simp [intOf]; omega
        · by_cases h45 : s[i] = 45
          · have HST := Lib.hid (span_step isSgn s.data.toList i s[i] HG.out HSG.out (by rw [h45]; decide))
            have q43 : ((s[i].toNat : Int) == 43) = false := by rw [h45]; rfl
            have q45 : ((s[i].toNat : Int) == 45) = true := by rw [h45]; rfl
            have HCN := Lib.hid (show ((s.data.toList.take (i + 1)).count 45 % 2 == 1) = !neg by
              rw [take_snoc' _ _ _ HG.out, List.count_append, h45, ← HNEG.out, show ([45] : List UInt8).count 45 = 1 from rfl]
              generalize (s.data.toList.take i).count 45 = n
              rcases Nat.mod_two_eq_zero_or_one n with h | h <;> simp [Nat.add_mod, h])
            clear h43 h45
            go_wp2_with fail
            go_roundw
            case rel => exact ⟨i + 1, by omega, by go_num, by rw [HCN.out], HST.out, HBW.out⟩
            case measure => simp [intOf]; omega
          · have q43 : ((s[i].toNat : Int) == 43) = false := by rw [beq_eq_false_iff_ne]; exact fun e => h43 (u8_eq (by have : s[i].toNat = 43 := (by omega); rw [this]; rfl))
            have q45 : ((s[i].toNat : Int) == 45) = false := by rw [beq_eq_false_iff_ne]; exact fun e => h45 (u8_eq (by have : s[i].toNat = 45 := (by omega); rw [this]; rfl))
            have HEX := Lib.hid (span_exit isSgn s.data.toList i (by simpa using hi) HSG.out (fun c hc => by
              rw [HG.out] at hc; injection hc with hc; subst hc; unfold isSgn
              exact decide_eq_false (fun e => by rcases e with e | e <;> simp [e] at q43 q45)))
            clear h43 h45
            go_wp2_with fail
            go_meet
            case rel => exact ⟨by rw [HEX.out.1, List.length_take]; simp; omega, by unfold negOf; rw [HEX.out.1, HNEG.out], HBW.out⟩
      · have HEX := Lib.hid (span_exit isSgn s.data.toList i (by simpa using hi) HSG.out (fun c hc => by rw [List.getElem?_eq_none (by simp; omega)] at hc; cases hc))
        have i1 : ¬ (i : Int) < (s.size : Int) := by omega
        go_wp2_with fail
        go_meet
        case rel => exact ⟨by rw [HEX.out.1, List.length_take]; simp; omega, by unfold negOf; rw [HEX.out.1, HNEG.out], HBW.out⟩
  case rest =>
    obtain ⟨rfl, rfl, hbw⟩ := hcut
    have hdl : s.data.toList.dropWhile isSgn = s.data.toList.drop (s.data.toList.takeWhile isSgn).length := (drop_while isSgn _).symm
    have hle : (s.data.toList.takeWhile isSgn).length ≤ s.size := by
      have := (List.takeWhile_sublist isSgn (l := s.data.toList)).length_le
      simpa using this
    have HDL := Lib.hid hdl; have HBW := Lib.hid hbw; clear hdl hbw
    have HNO := Lib.hid (show numOf s.data.toList = if negOf s.data.toList then -(absOf s.data.toList : Int) else (absOf s.data.toList : Int) from rfl)
    generalize hi0 : (s.data.toList.takeWhile isSgn).length = i0 at *
    generalize negOf s.data.toList = neg at *
    clear hi0
    go_upto_block 2 with (fail)
    have hwl : wholeOf s.data.toList = (s.data.toList.drop i0).takeWhile isDig := by unfold wholeOf; rw [HDL.out]
    have HWL := Lib.hid hwl; clear hwl
    go_cut [3, 5] (fun a n wr => a = .int .i64 ((i0 + (wholeOf s.data.toList).length : Nat) : Int) ∧ n = .int .i64 ((cutP 0 (wholeOf s.data.toList) : Nat) : Int) ∧ Below w.heap.size w wr)
    case first =>
      go_wp2_with fail
      go_loopw [3, 5] (fun a n wr => ∃ k : Nat, i0 + k ≤ s.size ∧ a = .int .i64 ((i0 + k : Nat) : Int) ∧ n = .int .i64 ((cutP 0 ((s.data.toList.drop i0).take k) : Nat) : Int) ∧ (∀ c ∈ (s.data.toList.drop i0).take k, isDig c = true) ∧ Below w.heap.size w wr) (fun a _ _ => s.size - (intOf a).toNat)
      case atStart => exact ⟨0, by omega, rfl, rfl, fun c h => by simp at h, HBW.out⟩
      case round =>
        obtain ⟨k, hk, rfl, rfl, hdg, hbw⟩ := hrel
        have HDG := Lib.hid hdg; have HBW := Lib.hid hbw; clear hdg hbw
        have hn12 : cutP 0 ((s.data.toList.drop i0).take k) ≤ 1000000000000 := by rw [cutP_eq _ 0 (by decide)]; exact Nat.min_le_right _ _
        generalize hnn : cutP 0 ((s.data.toList.drop i0).take k) = nn at *
        have HNN := Lib.hid hnn; clear hnn
        by_cases hlt : i0 + k < s.size
        · have i1 : ((i0 + k : Nat) : Int) < (s.size : Int) := by omega
          have i2 : (0 : Int) ≤ ((i0 + k : Nat) : Int) := by omega
          have HG := Lib.hid (get_list s (i0 + k) hlt)
          have HC := Lib.hid (HD.out s[i0 + k] wr)
          go_wp2_with fail
          refine HC.out.mono ?_
          rintro e1 w1 ⟨rfl, rfl⟩
          have hdr : (s.data.toList.drop i0)[k]? = some s[i0 + k] := by rw [List.getElem?_drop]; exact HG.out
          cases hdc : isDig s[i0 + k]
          · have HEX := Lib.hid (span_exit isDig (s.data.toList.drop i0) k (by simp; omega) HDG.out (fun c hc => by rw [hdr] at hc; injection hc with hc; rw [← hc]; exact hdc))
            clear hdr
            go_wp2_with fail
            go_meet
            case rel => exact ⟨by rw [HWL.out, HEX.out.1, List.length_take]; simp; omega, by rw [HWL.out, HEX.out.1, HNN.out], HBW.out⟩
          · have HST := Lib.hid (span_step isDig (s.data.toList.drop i0) k s[i0 + k] hdr HDG.out hdc)
            have HSN := Lib.hid (show cutP 0 ((s.data.toList.drop i0).take (k + 1)) = min (10 * nn + dg s[i0 + k]) 1000000000000 by rw [take_snoc' _ _ _ hdr, cutP_snoc, HNN.out])
            have h9 := dg_le hdc
            have hdv : ((s[i0 + k].toNat : Int) - 48) = (dg s[i0 + k] : Int) := by unfold isDig at hdc; unfold dg; simp only [decide_eq_true_eq] at hdc; omega
            generalize dg s[i0 + k] = dd at *
            have HMN := Lib.hid (l00Min_any (10 * (nn : Int) + (dd : Int)) 1000000000000 wr)
            clear hdr hdc
            go_wp2_with fail
            refine HMN.out.mono ?_
            rintro e2 w2 ⟨rfl, rfl⟩
            rw [show min (10 * (nn : Int) + (dd : Int)) 1000000000000 = ((min (10 * nn + dd) 1000000000000 : Nat) : Int) by omega]
            generalize min (10 * nn + dd) 1000000000000 = n2 at *
            go_wp2_with fail
            go_roundw
            case rel => exact ⟨k + 1, by omega, by go_num, by rw [HSN.out], HST.out, HBW.out⟩
            case measure => simp [intOf]; omega
        · have HEX := Lib.hid (span_exit isDig (s.data.toList.drop i0) k (by simp; omega) HDG.out (fun c hc => by rw [List.getElem?_eq_none (by simp; omega)] at hc; cases hc))
          have i1 : ¬ ((i0 : Int) + (k : Int)) < (s.size : Int) := by omega
          go_wp2_with fail
          go_meet
          case rel => exact ⟨by rw [HWL.out, HEX.out.1, List.length_take]; simp; omega, by rw [HWL.out, HEX.out.1, HNN.out], HBW.out⟩
    case rest =>
      obtain ⟨rfl, rfl, hbw⟩ := hcut
      have HBW2 := Lib.hid hbw; clear hbw
      have hb : behindOf s.data.toList = s.data.toList.drop (i0 + (wholeOf s.data.toList).length) := by
        unfold behindOf
        rw [HDL.out, ← drop_while, List.drop_drop, HWL.out]
      have hle2 : i0 + (wholeOf s.data.toList).length ≤ s.size := by
        have := (List.takeWhile_sublist isDig (l := s.data.toList.drop i0)).length_le
        rw [HWL.out]
        simp at this ⊢
        omega
      have HB := Lib.hid hb; clear hb
      have HCA := Lib.hid (cut_abs s.data.toList)
      have hcw : cutP 0 (wholeOf s.data.toList) ≤ 1000000000000 := by rw [cutP_eq _ 0 (by decide)]; exact Nat.min_le_right _ _
      generalize cutP 0 (wholeOf s.data.toList) = cw at *
      generalize hi1 : i0 + (wholeOf s.data.toList).length = j0 at *
      clear hi1 HWL HDL hle
      have HM1 := Lib.hid (fun W => l00Min_any ((cw : Int) * 1000000) 1000000000000000000 W)
      have hmm : min ((cw : Int) * 1000000) 1000000000000000000 = ((min (cw * 1000000) (maxNum + 1) : Nat) : Int) := by unfold maxNum; omega
      have HMM := Lib.hid hmm; clear hmm
      go_upto_region 11 with (first | fail | (refine (HM1.out _).mono ?_; rintro e1 w1 ⟨rfl, rfl⟩; rw [HMM.out]))
      go_cut [64] (fun b wr => b = .bool (pointB s.data.toList) ∧ Below w.heap.size w wr)
      case first =>
        by_cases hlt : j0 < s.size
        · have i1 : (j0 : Int) < (s.size : Int) := by omega
          have i0' : (0 : Int) ≤ (j0 : Int) := by omega
          have hdr : behindOf s.data.toList = s[j0] :: s.data.toList.drop (j0 + 1) := by rw [HB.out]; exact List.drop_eq_getElem_cons (by simpa using hlt)
          have HPB := Lib.hid (show pointB s.data.toList = ((s[j0].toNat : Int) == 46) by
            unfold pointB; rw [hdr]
            rw [Bool.eq_iff_iff]
            simp only [beq_iff_eq]
            exact ⟨fun e => by rw [e]; rfl, fun e => u8_eq (by have : s[j0].toNat = 46 := (by omega); rw [this]; rfl)⟩)
          clear hdr
          go_wp2_with fail
          go_meet
          case rel => exact ⟨by rw [HPB.out], HBW2.out⟩
        · have i1 : ¬ (j0 : Int) < (s.size : Int) := by omega
          have HPB := Lib.hid (show pointB s.data.toList = false by unfold pointB; rw [HB.out, List.drop_eq_nil_of_le (by simp; omega)])
          go_wp2_with fail
          go_meet
          case rel => exact ⟨by rw [HPB.out], HBW2.out⟩
      case rest =>
        obtain ⟨rfl, hbw⟩ := hcut
        have HBW3 := Lib.hid hbw; clear hbw
        have hn3 : min (cw * 1000000) (maxNum + 1) ≤ 1000000000000000000 := Nat.min_le_right _ _
        generalize min (cw * 1000000) (maxNum + 1) = n3 at *
        clear HM1 HMM hcw
        go_upto_if 64 with (fail)
        go_cut [5] (fun n wr => n = .int .i64 ((fracP n3 100000 (fracOf s.data.toList) : Nat) : Int) ∧ Below w.heap.size w wr)
        case first =>
          cases hpb : pointB s.data.toList
          · have HFR := Lib.hid (show fracOf s.data.toList = [] from fracOf_none (fun r e => by unfold pointB at hpb; rw [e] at hpb; cases hpb))
            clear hpb
            go_wp2_with fail
            go_meet
            case rel => exact ⟨by rw [HFR.out]; rfl, HBW3.out⟩
          · obtain ⟨r, hr⟩ : ∃ r, behindOf s.data.toList = 46 :: r := by
              unfold pointB at hpb
              cases hbh : behindOf s.data.toList with
              | nil => rw [hbh] at hpb; cases hpb
              | cons c r => rw [hbh] at hpb; exact ⟨r, by rw [show c = 46 by simpa using hpb]⟩
            have HFR := Lib.hid (fracOf_point hr)
            have hlen : j0 + (r.length + 1) = s.size := by
              have h1 := congrArg List.length hr
              rw [HB.out] at h1
              simp at h1
              omega
            have HRG := Lib.hid (show ∀ k, r[k]? = s.data.toList[j0 + 1 + k]? from fun k => by
              have h1 : (s.data.toList.drop j0)[k + 1]? = r[k]? := by rw [← HB.out, hr]; rfl
              rw [← h1, List.getElem?_drop]; congr 1; omega)
            clear hr hpb
            go_wp2_with fail
            go_loopw [3, 5, 6] (fun a n u wr => ∃ (k nn uu : Nat), k ≤ r.length ∧ a = .int .i64 ((j0 + 1 + k : Nat) : Int) ∧ n = .int .i64 (nn : Int) ∧ u = .int .i64 (uu : Int) ∧ uu ≤ 100000 ∧ nn + 10 * uu ≤ 1000000000001000000 ∧ fracP nn uu ((r.drop k).takeWhile isDig) = fracP n3 100000 (r.takeWhile isDig) ∧ Below w.heap.size w wr) (fun a _ _ _ => s.size - (intOf a).toNat)
            case atStart => exact ⟨0, n3, 100000, by omega, by go_num, rfl, rfl, Nat.le_refl _, by omega, rfl, HBW3.out⟩
            case round =>
              obtain ⟨k, nn, uu, hk, rfl, rfl, rfl, hu, hnu, hfr, hbw⟩ := hrel
              have HFP := Lib.hid hfr; have HBW4 := Lib.hid hbw; clear hfr hbw
              by_cases hlt : k < r.length
              · have hjs : j0 + 1 + k < s.size := by omega
                have i1 : ((j0 : Int) + 1 + (k : Int)) < (s.size : Int) := by omega
                have i2 : (0 : Int) ≤ ((j0 : Int) + 1 + (k : Int)) := by omega
                have hg := get_list s (j0 + 1 + k) hjs
                have hrk : r[k]? = some s[j0 + 1 + k] := by rw [HRG.out]; exact hg
                have hdk : r.drop k = s[j0 + 1 + k] :: r.drop (k + 1) := by
                  rw [List.getElem?_eq_getElem hlt] at hrk
                  injection hrk with hrk
                  rw [← hrk]
                  exact List.drop_eq_getElem_cons hlt
                have HDK := Lib.hid hdk
                have HC := Lib.hid (HD.out s[j0 + 1 + k] wr)
                clear hg hrk hdk
                go_wp2_with fail
                refine HC.out.mono ?_
                rintro e1 w1 ⟨rfl, rfl⟩
                cases hdc : isDig s[j0 + 1 + k]
                · have HEX := Lib.hid (show fracP n3 100000 (r.takeWhile isDig) = nn by rw [← HFP.out, HDK.out, List.takeWhile_cons, hdc]; rfl)
                  clear hdc
                  go_wp2_with fail
                  go_meet
                  case rel => exact ⟨by rw [HFR.out, HEX.out], HBW4.out⟩
                · have h9 := dg_le hdc
                  have hdv : ((s[j0 + 1 + k].toNat : Int) - 48) = (dg s[j0 + 1 + k] : Int) := by unfold isDig at hdc; unfold dg; simp only [decide_eq_true_eq] at hdc; omega
                  have HSN := Lib.hid (show fracP (nn + dg s[j0 + 1 + k] * uu) (uu / 10) ((r.drop (k + 1)).takeWhile isDig) = fracP n3 100000 (r.takeWhile isDig) by
                    rw [← HFP.out, HDK.out, List.takeWhile_cons, hdc, if_pos rfl, fracP_cons])
                  generalize dg s[j0 + 1 + k] = dd at *
                  have hmul : dd * uu ≤ 9 * uu := Nat.mul_le_mul_right _ h9
                  have hmi : (dd : Int) * (uu : Int) = ((dd * uu : Nat) : Int) := by push_cast; rfl
                  generalize dd * uu = du at *
                  clear hdc
                  go_wp2_with fail
                  go_roundw
                  case rel => exact ⟨k + 1, nn + du, uu / 10, by omega, by go_num, by push_cast; rfl, by push_cast; rfl, by omega, by omega, HSN.out, HBW4.out⟩
                  case measure => simp [intOf]; omega
              · have i1 : ¬ ((j0 : Int) + 1 + (k : Int)) < (s.size : Int) := by omega
                have HEX := Lib.hid (show fracP n3 100000 (r.takeWhile isDig) = nn by rw [← HFP.out, List.drop_eq_nil_of_le (by omega)]; rfl)
                go_wp2_with fail
                go_meet
                case rel => exact ⟨by rw [HFR.out, HEX.out], HBW4.out⟩
        case rest =>
          obtain ⟨rfl, hbw⟩ := hcut
          have HBW4 := Lib.hid hbw; clear hbw
          generalize fracP n3 100000 (fracOf s.data.toList) = nf at *
          have HM2 := Lib.hid (fun W => l00Min_any (nf : Int) 999999999999999999 W)
          have HM3 := Lib.hid (show min (nf : Int) 999999999999999999 = (absOf s.data.toList : Int) by rw [← HCA.out]; unfold maxNum; omega)
          have hab := absOf_le s.data.toList
          unfold maxNum at hab
          generalize absOf s.data.toList = ab at *
          have HBF := HBW4.out
          cases neg
          · go_wp2_with (first | fail | (refine (HM2.out _).mono ?_; rintro e1 w1 ⟨rfl, rfl⟩; rw [HM3.out]))
            go_ret
            exact ⟨by rw [HNO.out]; rfl, HBF⟩
          · go_wp2_with (first | fail | (refine (HM2.out _).mono ?_; rintro e1 w1 ⟨rfl, rfl⟩; rw [HM3.out]))
            go_ret
            exact ⟨by rw [HNO.out]; rfl, HBF⟩
end Go.Proofs.YtfibjcaidnofmaaGreatDoor

