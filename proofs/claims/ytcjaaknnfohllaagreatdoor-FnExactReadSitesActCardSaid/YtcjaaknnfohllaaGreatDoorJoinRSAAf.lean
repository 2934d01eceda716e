/- The reference's numbers walked: l01Digit, l00Min, l01Of. -/
import Derived.Test.YtcjaaknnfohllaaGreatDoorProg
import Derived.Test.YtcjaaknnfohllaaGreatDoorJoinRSAAe
import Derived.Test.YtcjaaknnfohllaaGreatDoorJoinRSAAa
import Derived.Deep.DeepCutAuto
import Derived.Deep.CutBlock
import Derived.Deep.RegionHeld3
namespace Go.Proofs.YtcjaaknnfohllaaGreatDoor
open Go.RowKit

set_option maxHeartbeats 4000000 in
theorem l01DigitB_any (c : UInt8) (w : World) : Calls Tryz.prog 225 #[.int .u8 c.toNat] w fun e w' => e = .returned (.bool (isDig c)) ∧ w = w' := by
  have hd : isDig c = decide (48 ≤ c.toNat ∧ c.toNat ≤ 57) := rfl
  by_cases h1 : (48 : Int) ≤ (c.toNat : Int)
  · by_cases h2 : (c.toNat : Int) ≤ 57
    · rw [hd, decide_eq_true (by omega)]
      clear hd
      go_enter Tryz.func225, Tryz.ntmps225
      go_wp2_with fail
      go_ret
      exact ⟨rfl, rfl⟩
    · rw [hd, decide_eq_false (by omega)]
      clear hd
      go_enter Tryz.func225, Tryz.ntmps225
      go_wp2_with fail
      go_ret
      exact ⟨rfl, rfl⟩
  · rw [hd, decide_eq_false (by omega)]
    clear hd
    go_enter Tryz.func225, Tryz.ntmps225
    go_wp2_with fail
    go_ret
    exact ⟨rfl, rfl⟩

set_option maxHeartbeats 4000000 in
theorem l00Min_any (a b : Int) (w : World) : Calls Tryz.prog 258 #[.int .i64 a, .int .i64 b] w fun e w' => e = .returned (.int .i64 (min a b)) ∧ w = w' := by
  by_cases h : a < b
  · rw [show min a b = a by omega]
    go_enter Tryz.func258, Tryz.ntmps258
    go_wp2_with fail
    go_ret
    exact ⟨rfl, rfl⟩
  · rw [show min a b = b by omega]
    go_enter Tryz.func258, Tryz.ntmps258
    go_wp2_with fail
    go_ret
    exact ⟨rfl, rfl⟩

/-- A point stands behind the digits. -/
def pointB (l : List UInt8) : Bool := match behindOf l with
  | c :: _ => c == 46
  | [] => false
theorem cutP_snoc (l : List UInt8) (c : UInt8) : ∀ n, cutP n (l ++ [c]) = min (10 * cutP n l + dg c) 1000000000000 := by
  induction l with
  | nil => intro n; rw [List.nil_append, cutP_cons, cutP_nil, cutP_nil]
  | cons a l ih => intro n; rw [List.cons_append, cutP_cons, cutP_cons, ih]
theorem take_snoc' (l : List UInt8) (i : Nat) (c : UInt8) (h : l[i]? = some c) : l.take (i + 1) = l.take i ++ [c] := by
  rw [List.take_add_one, h]; rfl
theorem get_list (s : ByteArray) (i : Nat) (h : i < s.size) : s.data.toList[i]? = some s[i] := by
  rw [Array.getElem?_toList]
  exact Array.getElem?_eq_getElem h

set_option maxHeartbeats 8000000 in
set_option maxRecDepth 100000 in
theorem l01Of_any (s : ByteArray) (hs : s.size ≤ 1048576) (w : World) : Calls Tryz.prog 236 #[.string s] w fun e w' => e = .returned (.int .i64 (numOf s.data.toList)) ∧ Below w.heap.size w w' := by
  have hD := fun c W => l01DigitB_any c W
  have HD := Lib.hid hD; clear hD
  go_enter Tryz.func236, Tryz.ntmps236
  go_upto_block 0 with (fail)
  go_cut [3, 4] (fun a m wr => a = .int .i64 ((s.data.toList.takeWhile isSgn).length : Nat) ∧ m = .bool (negOf s.data.toList) ∧ Below w.heap.size w wr)
  case first =>
    go_wp2_with fail
    go_loopw [3, 4] (fun a m wr => ∃ i : Nat, i ≤ s.size ∧ a = .int .i64 i ∧ m = .bool ((s.data.toList.take i).count 45 % 2 == 1) ∧ (∀ c ∈ s.data.toList.take i, isSgn c = true) ∧ Below w.heap.size w wr) (fun a _ _ => s.size - (intOf a).toNat)
    case atStart => exact ⟨0, Nat.zero_le _, rfl, rfl, fun c h => by simp at h, Below.refl _ _⟩
    case round =>
      obtain ⟨i, hi, rfl, rfl, hsg, hbw⟩ := hrel
      have HSG := Lib.hid hsg; have HBW := Lib.hid hbw; clear hsg hbw
      generalize hneg : ((s.data.toList.take i).count 45 % 2 == 1) = neg at *
      have HNEG := Lib.hid hneg; clear hneg
      by_cases hlt : i < s.size
      · have i1 : (i : Int) < (s.size : Int) := by omega
        have i0 : (0 : Int) ≤ (i : Int) := by omega
        have HG := Lib.hid (get_list s i hlt)
        by_cases h43 : s[i] = 43
        · have HST := Lib.hid (span_step isSgn s.data.toList i s[i] HG.out HSG.out (by rw [h43]; decide))
          have q43 : ((s[i].toNat : Int) == 43) = true := by rw [h43]; rfl
          have q45 : ((s[i].toNat : Int) == 45) = false := by rw [h43]; rfl
          have HCN := Lib.hid (show ((s.data.toList.take (i + 1)).count 45 % 2 == 1) = neg by rw [take_snoc' _ _ _ HG.out, List.count_append, h43]; simpa using HNEG.out)
          clear h43
          go_wp2_with fail
          go_roundw
          case rel => exact ⟨i + 1, by omega, by go_num, by rw [HCN.out], HST.out, HBW.out⟩
          case measure => simp [intOf]; omega
        · by_cases h45 : s[i] = 45
          · have HST := Lib.hid (span_step isSgn s.data.toList i s[i] HG.out HSG.out (by rw [h45]; decide))
            have q43 : ((s[i].toNat : Int) == 43) = false := by rw [h45]; rfl
            have q45 : ((s[i].toNat : Int) == 45) = true := by rw [h45]; rfl
            have HCN := Lib.hid (show ((s.data.toList.take (i + 1)).count 45 % 2 == 1) = !neg by
              rw [take_snoc' _ _ _ HG.out, List.count_append, h45, ← HNEG.out, show ([45] : List UInt8).count 45 = 1 from rfl]
              generalize (s.data.toList.take i).count 45 = n
              rcases Nat.mod_two_eq_zero_or_one n with h | h <;> simp [Nat.add_mod, h])
            clear h43 h45
            go_wp2_with fail
            go_roundw
            case rel => exact ⟨i + 1, by omega, by go_num, by rw [HCN.out], HST.out, HBW.out⟩
            case measure => simp [intOf]; omega
          · have q43 : ((s[i].toNat : Int) == 43) = false := by rw [beq_eq_false_iff_ne]; exact fun e => h43 (u8_eq (by have : s[i].toNat = 43 := (by omega); rw [this]; rfl))
            have q45 : ((s[i].toNat : Int) == 45) = false := by rw [beq_eq_false_iff_ne]; exact fun e => h45 (u8_eq (by have : s[i].toNat = 45 := (by omega); rw [this]; rfl))
            have HEX := Lib.hid (span_exit isSgn s.data.toList i (by simpa using hi) HSG.out (fun c hc => by
              rw [HG.out] at hc; injection hc with hc; subst hc; unfold isSgn
              exact decide_eq_false (fun e => by rcases e with e | e <;> simp [e] at q43 q45)))
            clear h43 h45
            go_wp2_with fail
            go_meet
            case rel => exact ⟨by rw [HEX.out.1, List.length_take]; simp; omega, by unfold negOf; rw [HEX.out.1, HNEG.out], HBW.out⟩
      · have HEX := Lib.hid (span_exit isSgn s.data.toList i (by simpa using hi) HSG.out (fun c hc => by rw [List.getElem?_eq_none (by simp; omega)] at hc; cases hc))
        have i1 : ¬ (i : Int) < (s.size : Int) := by omega
        go_wp2_with fail
        go_meet
        case rel => exact ⟨by rw [HEX.out.1, List.length_take]; simp; omega, by unfold negOf; rw [HEX.out.1, HNEG.out], HBW.out⟩
  case rest =>
    obtain ⟨rfl, rfl, hbw⟩ := hcut
    have hdl : s.data.toList.dropWhile isSgn = s.data.toList.drop (s.data.toList.takeWhile isSgn).length := (drop_while isSgn _).symm
    have hle : (s.data.toList.takeWhile isSgn).length ≤ s.size := by
      have := (List.takeWhile_sublist isSgn (l := s.data.toList)).length_le
      simpa using this
    have HDL := Lib.hid hdl; have HBW := Lib.hid hbw; clear hdl hbw
    have HNO := Lib.hid (show numOf s.data.toList = if negOf s.data.toList then -(absOf s.data.toList : Int) else (absOf s.data.toList : Int) from rfl)
    generalize hi0 : (s.data.toList.takeWhile isSgn).length = i0 at *
    generalize negOf s.data.toList = neg at *
    clear hi0
    go_upto_block 2 with (fail)
    have hwl : wholeOf s.data.toList = (s.data.toList.drop i0).takeWhile isDig := by unfold wholeOf; rw [HDL.out]
    have HWL := Lib.hid hwl; clear hwl
    go_cut [3, 5] (fun a n wr => a = .int .i64 ((i0 + (wholeOf s.data.toList).length : Nat) : Int) ∧ n = .int .i64 ((cutP 0 (wholeOf s.data.toList) : Nat) : Int) ∧ Below w.heap.size w wr)
    case first =>
      go_wp2_with fail
      go_loopw [3, 5] (fun a n wr => ∃ k : Nat, i0 + k ≤ s.size ∧ a = .int .i64 ((i0 + k : Nat) : Int) ∧ n = .int .i64 ((cutP 0 ((s.data.toList.drop i0).take k) : Nat) : Int) ∧ (∀ c ∈ (s.data.toList.drop i0).take k, isDig c = true) ∧ Below w.heap.size w wr) (fun a _ _ => s.size - (intOf a).toNat)
      case atStart => exact ⟨0, by omega, rfl, rfl, fun c h => by simp at h, HBW.out⟩
      case round =>
        obtain ⟨k, hk, rfl, rfl, hdg, hbw⟩ := hrel
        have HDG := Lib.hid hdg; have HBW := Lib.hid hbw; clear hdg hbw
        have hn12 : cutP 0 ((s.data.toList.drop i0).take k) ≤ 1000000000000 := by rw [cutP_eq _ 0 (by decide)]; exact Nat.min_le_right _ _
        generalize hnn : cutP 0 ((s.data.toList.drop i0).take k) = nn at *
        have HNN := Lib.hid hnn; clear hnn
        by_cases hlt : i0 + k < s.size
        · have i1 : ((i0 + k : Nat) : Int) < (s.size : Int) := by omega
          have i2 : (0 : Int) ≤ ((i0 + k : Nat) : Int) := by omega
          have HG := Lib.hid (get_list s (i0 + k) hlt)
          have HC := Lib.hid (HD.out s[i0 + k] wr)
          go_wp2_with fail
          refine HC.out.mono ?_
          rintro e1 w1 ⟨rfl, rfl⟩
          have hdr : (s.data.toList.drop i0)[k]? = some s[i0 + k] := by rw [List.getElem?_drop]; exact HG.out
          cases hdc : isDig s[i0 + k]
          · have HEX := Lib.hid (span_exit isDig (s.data.toList.drop i0) k (by simp; omega) HDG.out (fun c hc => by rw [hdr] at hc; injection hc with hc; rw [← hc]; exact hdc))
            clear hdr
            go_wp2_with fail
            go_meet
            case rel => exact ⟨by rw [HWL.out, HEX.out.1, List.length_take]; simp; omega, by rw [HWL.out, HEX.out.1, HNN.out], HBW.out⟩
          · have HST := Lib.hid (span_step isDig (s.data.toList.drop i0) k s[i0 + k] hdr HDG.out hdc)
            have HSN := Lib.hid (show cutP 0 ((s.data.toList.drop i0).take (k + 1)) = min (10 * nn + dg s[i0 + k]) 1000000000000 by rw [take_snoc' _ _ _ hdr, cutP_snoc, HNN.out])
            have h9 := dg_le hdc
            have hdv : ((s[i0 + k].toNat : Int) - 48) = (dg s[i0 + k] : Int) := by unfold isDig at hdc; unfold dg; simp only [decide_eq_true_eq] at hdc; omega
            generalize dg s[i0 + k] = dd at *
            have HMN := Lib.hid (l00Min_any (10 * (nn : Int) + (dd : Int)) 1000000000000 wr)
            clear hdr hdc
            go_wp2_with fail
            refine HMN.out.mono ?_
            rintro e2 w2 ⟨rfl, rfl⟩
            rw [show min (10 * (nn : Int) + (dd : Int)) 1000000000000 = ((min (10 * nn + dd) 1000000000000 : Nat) : Int) by omega]
            generalize min (10 * nn + dd) 1000000000000 = n2 at *
            go_wp2_with fail
            go_roundw
            case rel => exact ⟨k + 1, by omega, by go_num, by rw [HSN.out], HST.out, HBW.out⟩
            case measure => simp [intOf]; omega
        · have HEX := Lib.hid (span_exit isDig (s.data.toList.drop i0) k (by simp; omega) HDG.out (fun c hc => by rw [List.getElem?_eq_none (by simp; omega)] at hc; cases hc))
          have i1 : ¬ ((i0 : Int) + (k : Int)) < (s.size : Int) := by omega
          go_wp2_with fail
          go_meet
          case rel => exact ⟨by rw [HWL.out, HEX.out.1, List.length_take]; simp; omega, by rw [HWL.out, HEX.out.1, HNN.out], HBW.out⟩
    case rest =>
      obtain ⟨rfl, rfl, hbw⟩ := hcut
      have HBW2 := Lib.hid hbw; clear hbw
      have hb : behindOf s.data.toList = s.data.toList.drop (i0 + (wholeOf s.data.toList).length) := by
        unfold behindOf
        rw [HDL.out, ← drop_while, List.drop_drop, HWL.out]
      have hle2 : i0 + (wholeOf s.data.toList).length ≤ s.size := by
        have := (List.takeWhile_sublist isDig (l := s.data.toList.drop i0)).length_le
        rw [HWL.out]
        simp at this ⊢
        omega
      have HB := Lib.hid hb; clear hb
      have HCA := Lib.hid (cut_abs s.data.toList)
      have hcw : cutP 0 (wholeOf s.data.toList) ≤ 1000000000000 := by rw [cutP_eq _ 0 (by decide)]; exact Nat.min_le_right _ _
      generalize cutP 0 (wholeOf s.data.toList) = cw at *
      generalize hi1 : i0 + (wholeOf s.data.toList).length = j0 at *
      clear hi1 HWL HDL hle
      have HM1 := Lib.hid (fun W => l00Min_any ((cw : Int) * 1000000) 1000000000000000000 W)
      have hmm : min ((cw : Int) * 1000000) 1000000000000000000 = ((min (cw * 1000000) (maxNum + 1) : Nat) : Int) := by unfold maxNum; omega
      have HMM := Lib.hid hmm; clear hmm
      go_upto_region 11 with (first | fail | (refine (HM1.out _).mono ?_; rintro e1 w1 ⟨rfl, rfl⟩; rw [HMM.out]))
      go_cut [64] (fun b wr => b = .bool (pointB s.data.toList) ∧ Below w.heap.size w wr)
      case first =>
        by_cases hlt : j0 < s.size
        · have i1 : (j0 : Int) < (s.size : Int) := by omega
          have i0' : (0 : Int) ≤ (j0 : Int) := by omega
          have hdr : behindOf s.data.toList = s[j0] :: s.data.toList.drop (j0 + 1) := by rw [HB.out]; exact List.drop_eq_getElem_cons (by simpa using hlt)
          have HPB := Lib.hid (show pointB s.data.toList = ((s[j0].toNat : Int) == 46) by
            unfold pointB; rw [hdr]
            rw [Bool.eq_iff_iff]
            simp only [beq_iff_eq]
            exact ⟨fun e => by rw [e]; rfl, fun e => u8_eq (by have : s[j0].toNat = 46 := (by omega); rw [this]; rfl)⟩)
          clear hdr
          go_wp2_with fail
          go_meet
          case rel => exact ⟨by rw [HPB.out], HBW2.out⟩
        · have i1 : ¬ (j0 : Int) < (s.size : Int) := by omega
          have HPB := Lib.hid (show pointB s.data.toList = false by unfold pointB; rw [HB.out, List.drop_eq_nil_of_le (by simp; omega)])
          go_wp2_with fail
          go_meet
          case rel => exact ⟨by rw [HPB.out], HBW2.out⟩
      case rest =>
        obtain ⟨rfl, hbw⟩ := hcut
        have HBW3 := Lib.hid hbw; clear hbw
        have hn3 : min (cw * 1000000) (maxNum + 1) ≤ 1000000000000000000 := Nat.min_le_right _ _
        generalize min (cw * 1000000) (maxNum + 1) = n3 at *
        clear HM1 HMM hcw
        go_upto_if 64 with (fail)
        go_cut [5] (fun n wr => n = .int .i64 ((fracP n3 100000 (fracOf s.data.toList) : Nat) : Int) ∧ Below w.heap.size w wr)
        case first =>
          cases hpb : pointB s.data.toList
          · have HFR := Lib.hid (show fracOf s.data.toList = [] from fracOf_none (fun r e => by unfold pointB at hpb; rw [e] at hpb; cases hpb))
            clear hpb
            go_wp2_with fail
            go_meet
            case rel => exact ⟨by rw [HFR.out]; rfl, HBW3.out⟩
          · obtain ⟨r, hr⟩ : ∃ r, behindOf s.data.toList = 46 :: r := by
              unfold pointB at hpb
              cases hbh : behindOf s.data.toList with
              | nil => rw [hbh] at hpb; cases hpb
              | cons c r => rw [hbh] at hpb; exact ⟨r, by rw [show c = 46 by simpa using hpb]⟩
            have HFR := Lib.hid (fracOf_point hr)
            have hlen : j0 + (r.length + 1) = s.size := by
              have h1 := congrArg List.length hr
              rw [HB.out] at h1
              simp at h1
              omega
            have HRG := Lib.hid (show ∀ k, r[k]? = s.data.toList[j0 + 1 + k]? from fun k => by
              have h1 : (s.data.toList.drop j0)[k + 1]? = r[k]? := by rw [← HB.out, hr]; rfl
              rw [← h1, List.getElem?_drop]; congr 1; omega)
            clear hr hpb
            go_wp2_with fail
            go_loopw [3, 5, 6] (fun a n u wr => ∃ (k nn uu : Nat), k ≤ r.length ∧ a = .int .i64 ((j0 + 1 + k : Nat) : Int) ∧ n = .int .i64 (nn : Int) ∧ u = .int .i64 (uu : Int) ∧ uu ≤ 100000 ∧ nn + 10 * uu ≤ 1000000000001000000 ∧ fracP nn uu ((r.drop k).takeWhile isDig) = fracP n3 100000 (r.takeWhile isDig) ∧ Below w.heap.size w wr) (fun a _ _ _ => s.size - (intOf a).toNat)
            case atStart => exact ⟨0, n3, 100000, by omega, by go_num, rfl, rfl, Nat.le_refl _, by omega, rfl, HBW3.out⟩
            case round =>
              obtain ⟨k, nn, uu, hk, rfl, rfl, rfl, hu, hnu, hfr, hbw⟩ := hrel
              have HFP := Lib.hid hfr; have HBW4 := Lib.hid hbw; clear hfr hbw
              by_cases hlt : k < r.length
              · have hjs : j0 + 1 + k < s.size := by omega
                have i1 : ((j0 : Int) + 1 + (k : Int)) < (s.size : Int) := by omega
                have i2 : (0 : Int) ≤ ((j0 : Int) + 1 + (k : Int)) := by omega
                have hg := get_list s (j0 + 1 + k) hjs
                have hrk : r[k]? = some s[j0 + 1 + k] := by rw [HRG.out]; exact hg
                have hdk : r.drop k = s[j0 + 1 + k] :: r.drop (k + 1) := by
                  rw [List.getElem?_eq_getElem hlt] at hrk
                  injection hrk with hrk
                  rw [← hrk]
                  exact List.drop_eq_getElem_cons hlt
                have HDK := Lib.hid hdk
                have HC := Lib.hid (HD.out s[j0 + 1 + k] wr)
                clear hg hrk hdk
                go_wp2_with fail
                refine HC.out.mono ?_
                rintro e1 w1 ⟨rfl, rfl⟩
                cases hdc : isDig s[j0 + 1 + k]
                · have HEX := Lib.hid (show fracP n3 100000 (r.takeWhile isDig) = nn by rw [← HFP.out, HDK.out, List.takeWhile_cons, hdc]; rfl)
                  clear hdc
                  go_wp2_with fail
                  go_meet
                  case rel => exact ⟨by rw [HFR.out, HEX.out], HBW4.out⟩
                · have h9 := dg_le hdc
                  have hdv : ((s[j0 + 1 + k].toNat : Int) - 48) = (dg s[j0 + 1 + k] : Int) := by unfold isDig at hdc; unfold dg; simp only [decide_eq_true_eq] at hdc; omega
                  have HSN := Lib.hid (show fracP (nn + dg s[j0 + 1 + k] * uu) (uu / 10) ((r.drop (k + 1)).takeWhile isDig) = fracP n3 100000 (r.takeWhile isDig) by
                    rw [← HFP.out, HDK.out, List.takeWhile_cons, hdc, if_pos rfl, fracP_cons])
                  generalize dg s[j0 + 1 + k] = dd at *
                  have hmul : dd * uu ≤ 9 * uu := Nat.mul_le_mul_right _ h9
                  have hmi : (dd : Int) * (uu : Int) = ((dd * uu : Nat) : Int) := by push_cast; rfl
                  generalize dd * uu = du at *
                  clear hdc
                  go_wp2_with fail
                  go_roundw
                  case rel => exact ⟨k + 1, nn + du, uu / 10, by omega, by go_num, by push_cast; rfl, by push_cast; rfl, by omega, by omega, HSN.out, HBW4.out⟩
                  case measure => simp [intOf]; omega
              · have i1 : ¬ ((j0 : Int) + 1 + (k : Int)) < (s.size : Int) := by omega
                have HEX := Lib.hid (show fracP n3 100000 (r.takeWhile isDig) = nn by rw [← HFP.out, List.drop_eq_nil_of_le (by omega)]; rfl)
                go_wp2_with fail
                go_meet
                case rel => exact ⟨by rw [HFR.out, HEX.out], HBW4.out⟩
        case rest =>
          obtain ⟨rfl, hbw⟩ := hcut
          have HBW4 := Lib.hid hbw; clear hbw
          generalize fracP n3 100000 (fracOf s.data.toList) = nf at *
          have HM2 := Lib.hid (fun W => l00Min_any (nf : Int) 999999999999999999 W)
          have HM3 := Lib.hid (show min (nf : Int) 999999999999999999 = (absOf s.data.toList : Int) by rw [← HCA.out]; unfold maxNum; omega)
          have hab := absOf_le s.data.toList
          unfold maxNum at hab
          generalize absOf s.data.toList = ab at *
          have HBF := HBW4.out
          cases neg
          · go_wp2_with (first | fail | (refine (HM2.out _).mono ?_; rintro e1 w1 ⟨rfl, rfl⟩; rw [HM3.out]))
            go_ret
            exact ⟨by rw [HNO.out]; rfl, HBF⟩
          · go_wp2_with (first | fail | (refine (HM2.out _).mono ?_; rintro e1 w1 ⟨rfl, rfl⟩; rw [HM3.out]))
            go_ret
            exact ⟨by rw [HNO.out]; rfl, HBF⟩
end Go.Proofs.YtcjaaknnfohllaaGreatDoor

/- Moves of a region that draws its order: an operation whose guard says no is passed over; one that yields is taken first. Over any program. -/
namespace Go.Proofs.YtcjaaknnfohllaaGreatDoor

section
variable {P : Program} {l : List Oper} {Q : Exit → Go.Act → World → Prop} {md : Region.Mode} {S : World → Prop}

theorem held_skip (i d : Nat) {oi : Oper} {fuel : Nat} {listed : Array Bool} {a : Go.Act} {w : World} (hi : l[i]? = some oi) (hs : Region.noSelect l.toArray = true) (hf : Region.free md l.toArray listed i = true)
    (hr : (Region.ready md l.toArray listed).contains i = true) (hd : oi.dst = some d) (hQ : ∀ c (a : Go.Act) v w, Q (.panic c) (a.put (some d) v) w → Q (.panic c) a w)
    (hw : Region.wanted oi (yielded l.toArray a.tmps) = false) (hS : S w) (h : wpAnyH P md l.toArray Q S fuel (listed.setIfInBounds i true) (a.put (some d) undef) w) : wpAnyH P md l.toArray Q S (fuel + 1) listed a w :=
  wpAnyH_take (i := i) (oi := oi) (v := undef) (by simpa using hi) hs hf hr (fun c a w h => hQ c a undef w (hd ▸ h)) (.inr ⟨hw, rfl⟩) hS (hd ▸ h)

theorem held_take (i d : Nat) (v : Value) {oi : Oper} {fuel : Nat} {listed : Array Bool} {a : Go.Act} {w : World} (hi : l[i]? = some oi) (hs : Region.noSelect l.toArray = true) (hf : Region.free md l.toArray listed i = true)
    (hr : (Region.ready md l.toArray listed).contains i = true) (hd : oi.dst = some d) (hQ : ∀ c (a : Go.Act) v w, Q (.panic c) (a.put (some d) v) w → Q (.panic c) a w)
    (hw : Region.wanted oi (yielded l.toArray a.tmps) = true) (hy : ∀ w, S w → (execOp a.eval oi).run P w = .ok (.value v) w) (hS : S w)
    (h : wpAnyH P md l.toArray Q S fuel (listed.setIfInBounds i true) (a.put (some d) v) w) : wpAnyH P md l.toArray Q S (fuel + 1) listed a w :=
  wpAnyH_take (i := i) (oi := oi) (v := v) (by simpa using hi) hs hf hr (fun c a w h => hQ c a v w (hd ▸ h)) (.inl ⟨hw, hy⟩) hS (hd ▸ h)

end

end Go.Proofs.YtcjaaknnfohllaaGreatDoor

/- A region that draws its order and ends in stores that hit what it loaded: the loads are taken first; what is held need not stand behind the stores ('tail operations', which wait for every load). Over any program. -/
namespace Go.Proofs.YtcjaaknnfohllaaGreatDoor

/-- Some tail operation has come up. -/
def tailBegun (z : Nat → Bool) (listed : Array Bool) : Bool := (List.range listed.size).any fun j => z j && listed.getD j false
theorem tailBegun_set {z : Nat → Bool} {listed : Array Bool} {i : Nat} (hz : z i = false) : tailBegun z (listed.setIfInBounds i true) = tailBegun z listed := by
  unfold tailBegun
  rw [Array.size_setIfInBounds]
  congr 1
  funext j
  by_cases h : i = j
  · subst h; rw [hz]; rfl
  · rw [getD_set_ne false h]
theorem tailBegun_mono {z : Nat → Bool} {listed : Array Bool} {i : Nat} (h : tailBegun z (listed.setIfInBounds i true) = false) : tailBegun z listed = false := by
  unfold tailBegun at h ⊢
  rw [Array.size_setIfInBounds] at h
  rw [List.any_eq_false] at h ⊢
  intro j hj hc
  refine h j hj ?_
  rw [Bool.and_eq_true] at hc ⊢
  exact ⟨hc.1, getD_set_true hc.2⟩

section
variable {P : Program} {ops : Array Oper} {Q : Exit → Go.Act → World → Prop} {md : Region.Mode} {S : World → Prop} {z : Nat → Bool}

/-- Whatever order is picked: S stands as long as no tail operation has come up. -/
def AnyT (P : Program) (md : Region.Mode) (ops : Array Oper) (Q : Exit → Go.Act → World → Prop) (S : World → Prop) (z : Nat → Bool) : Nat → Array Bool → Go.Act → World → Prop
  | 0, listed, a, w => Region.ready md ops listed = [] ∧ Q .normal a w
  | n + 1, listed, a, w => (Region.ready md ops listed = [] → Q .normal a w) ∧
    ∀ i ∈ Region.ready md ops listed, wpOp P ops Q i (fun a' w' => (tailBegun z (listed.setIfInBounds i true) = false → S w') ∧ AnyT P md ops Q S z n (listed.setIfInBounds i true) a' w') a w

theorem AnyT.any : ∀ (n : Nat) (listed : Array Bool) (a : Go.Act) (w : World), AnyT P md ops Q S z n listed a w → wpAny P md ops Q n listed a w
  | 0, _, _, _, h => h
  | n + 1, _, _, _, h => ⟨h.1, fun i hi => wpOp_mono (fun a' w' h' => AnyT.any n _ a' w' h'.2) (h.2 i hi)⟩

/-- An operation that yields under S comes first, if all tail operations wait for it; one that yields in whatever world comes first anyhow. -/
theorem AnyT.first {S' : World → Prop} {i : Nat} {oi : Oper} {v : Value} (hi : ops[i]? = some oi) (hs : Region.noSelect ops = true) (hQ : ∀ c a w, Q (.panic c) (a.put oi.dst v) w → Q (.panic c) a w) (hzi : z i = false)
    (hz : (∀ w, S w → S' w) ∧ (∀ j oj, ops[j]? = some oj → z j = true → ∃ e ∈ oj.after, Region.binds md e = true ∧ e.on = i) ∨ ∀ w, S' w) :
    ∀ (n : Nat) (listed : Array Bool), (∀ j oj, ops[j]? = some oj → j ≠ i → listed.getD j true = false → (∀ e ∈ oj.after, Region.binds md e = true → e.on ≠ i) → oi.apart ops oj = true) →
      i ∈ Region.ready md ops listed → (tailBegun z listed = false ∨ ∀ w, S' w) → ∀ (a : Go.Act) (w : World), YieldsIf P ops S' oi v a → (tailBegun z listed = false → S w) → AnyT P md ops Q S z n (listed.setIfInBounds i true) (a.put oi.dst v) w → AnyT P md ops Q S z (n + 1) listed a w := by
  have hSS : ∀ (listed : Array Bool) (w : World), (tailBegun z listed = false ∨ ∀ w, S' w) → (tailBegun z listed = false → S w) → S' w := by
    intro listed w ht hS
    rcases hz with hz | hz
    · rcases ht with ht | ht
      · exact hz.1 w (hS ht)
      · exact ht w
    · exact hz w
  intro n
  induction n with
  | zero =>
    intro listed hfree hr ht a w hy hS H
    constructor
    · intro h0; rw [h0] at hr; cases hr
    · intro j hj
      rcases Nat.decEq j i with hne | heq
      · have hm := ready_mono hj hne
        rw [H.1] at hm
        cases hm
      · subst heq
        exact hy.wpOp hi (hSS listed w ht hS) ⟨fun h => hS (tailBegun_mono h), H⟩
  | succ n ih =>
    intro listed hfree hr ht a w hy hS H
    constructor
    · intro h0; rw [h0] at hr; cases hr
    · intro j hj
      rcases Nat.decEq j i with hne | heq
      · have hnext := H.2 j (ready_mono hj hne)
        obtain ⟨hun, oj, hoj, hdone⟩ := mem_ready.1 hj
        have hwait : ∀ e ∈ oj.after, Region.binds md e = true → e.on ≠ i := by
          intro e he hb hon
          have hl := hdone e he hb
          have hu := (mem_ready.1 hr).1
          rw [hon] at hl
          by_cases hlt : i < listed.size
          · simp [hlt] at hl hu; rw [hl] at hu; cases hu
          · simp [Array.getElem?_eq_none (Nat.le_of_not_lt hlt)] at hl
        have ht' : tailBegun z (listed.setIfInBounds j true) = false ∨ ∀ w, S' w := by
          rcases hz with hz | hz
          · rcases ht with ht | ht
            · left
              have hzj : z j = false := by
                cases hzz : z j with
                | false => rfl
                | true =>
                  obtain ⟨e, he, hb, hon⟩ := hz.2 j oj hoj hzz
                  exact absurd hon (hwait e he hb)
              rw [tailBegun_set hzj]; exact ht
            · exact .inr ht
          · exact .inr hz
        have hstep := wpOp_putIf hoj (hfree j oj hoj hne hun hwait) (fun cs b => Region.noSelect_spec hs i oi cs b hi) (fun cs b => Region.noSelect_spec hs j oj cs b hoj) hQ hy hnext
        refine wpOp_mono (fun a' w' h3 => ?_) hstep
        obtain ⟨hy', hS', hrest⟩ := h3
        have hcom : (listed.setIfInBounds i true).setIfInBounds j true = (listed.setIfInBounds j true).setIfInBounds i true := Array.setIfInBounds_comm _ _ (Ne.symm hne)
        rw [hcom, tailBegun_set hzi] at hS'
        refine ⟨hS', ih (listed.setIfInBounds j true) (fun k ok hok hki huk hnk => hfree k ok hok hki ?_ hnk) (ready_mono hr (Ne.symm hne)) ht' a' w' hy' hS' ?_⟩
        · by_cases hjk : j = k
          · subst hjk; exact hun
          · rw [getD_set_ne true hjk] at huk; exact huk
        · rw [← hcom]
          exact hrest
      · subst heq
        exact hy.wpOp hi (hSS listed w ht hS) ⟨fun h => hS (tailBegun_mono h), H⟩

/-- Every tail operation waits for number i. -/
def tailWaits (md : Region.Mode) (ops : Array Oper) (z : Nat → Bool) (i : Nat) : Bool :=
  (List.range ops.size).all fun j => !z j || match ops[j]? with | some oj => oj.after.any (fun e => Region.binds md e && e.on == i) | none => true
theorem tailWaits_spec {i : Nat} (h : tailWaits md ops z i = true) (j : Nat) (oj : Oper) (hj : ops[j]? = some oj) (hz : z j = true) : ∃ e ∈ oj.after, Region.binds md e = true ∧ e.on = i := by
  unfold tailWaits at h
  have h1 := List.all_eq_true.1 h j (List.mem_range.2 (Array.getElem?_eq_some_iff.1 hj).1)
  rw [hz, hj] at h1
  simp only [Bool.not_true, Bool.false_or] at h1
  obtain ⟨e, he, hb⟩ := Array.any_eq_true'.1 h1
  rw [Bool.and_eq_true] at hb
  exact ⟨e, he, hb.1, by simpa using hb.2⟩

theorem AnyT.done {listed : Array Bool} {a : Go.Act} {w : World} (hr : Region.ready md ops listed = []) (h : Q .normal a w) : ∀ n, AnyT P md ops Q S z n listed a w
  | 0 => ⟨hr, h⟩
  | _ + 1 => ⟨fun _ => h, fun i hi => by rw [hr] at hi; cases hi⟩

/-- The beginning. -/
theorem AnyT.region {id : Nat} {a : Go.Act} {w : World} (z : Nat → Bool) (S : World → Prop) (hm : P.follows .mixedOrders = true) (hS : S w.drew) (h : S w.drew → AnyT P .any ops Q S z ops.size (Array.replicate ops.size false) a w.drew) : (Code.region id ops true).wp P Q a w :=
  wp_region_any hm (AnyT.any _ _ _ _ (h hS))

end

section
variable {P : Program} {l : List Oper} {Q : Exit → Go.Act → World → Prop} {md : Region.Mode} {S : World → Prop} {z : Nat → Bool}

/-- A load, or what hangs on S otherwise. -/
theorem AnyT.take (i d : Nat) (v : Value) {oi : Oper} {n : Nat} {listed : Array Bool} {a : Go.Act} {w : World} (hi : l[i]? = some oi) (hs : Region.noSelect l.toArray = true) (hf : Region.free md l.toArray listed i = true)
    (hr : (Region.ready md l.toArray listed).contains i = true) (hz : tailWaits md l.toArray z i = true) (hzi : z i = false) (ht : tailBegun z listed = false) (hd : oi.dst = some d) (hQ : ∀ c (a : Go.Act) v w, Q (.panic c) (a.put (some d) v) w → Q (.panic c) a w)
    (hw : Region.wanted oi (yielded l.toArray a.tmps) = true) (hy : ∀ w, S w → (execOp a.eval oi).run P w = .ok (.value v) w) (hS : S w)
    (h : AnyT P md l.toArray Q S z n (listed.setIfInBounds i true) (a.put (some d) v) w) : AnyT P md l.toArray Q S z (n + 1) listed a w :=
  AnyT.first (i := i) (oi := oi) (v := v) (by simpa using hi) hs (fun c a w h => hQ c a v w (hd ▸ h)) hzi (.inl ⟨fun _ h => h, fun j oj hj hzj => tailWaits_spec hz j oj hj hzj⟩) n listed (fun j oj => Region.free_spec (by simpa using hi) hf j oj) (by simpa using hr) (.inl ht) a w (.inl ⟨hw, hy⟩) (fun _ => hS) (hd ▸ h)
/-- What yields in whatever world. -/
theorem AnyT.takeAny (i d : Nat) (v : Value) {oi : Oper} {n : Nat} {listed : Array Bool} {a : Go.Act} {w : World} (hi : l[i]? = some oi) (hs : Region.noSelect l.toArray = true) (hf : Region.free md l.toArray listed i = true)
    (hr : (Region.ready md l.toArray listed).contains i = true) (hzi : z i = false) (hd : oi.dst = some d) (hQ : ∀ c (a : Go.Act) v w, Q (.panic c) (a.put (some d) v) w → Q (.panic c) a w)
    (hw : Region.wanted oi (yielded l.toArray a.tmps) = true) (hy : ∀ w, (execOp a.eval oi).run P w = .ok (.value v) w) (hS : S w)
    (h : AnyT P md l.toArray Q S z n (listed.setIfInBounds i true) (a.put (some d) v) w) : AnyT P md l.toArray Q S z (n + 1) listed a w :=
  AnyT.first (S' := fun _ => True) (i := i) (oi := oi) (v := v) (by simpa using hi) hs (fun c a w h => hQ c a v w (hd ▸ h)) hzi (.inr fun _ => trivial) n listed (fun j oj => Region.free_spec (by simpa using hi) hf j oj) (by simpa using hr) (.inr fun _ => trivial) a w (.inl ⟨hw, fun w _ => hy w⟩) (fun _ => hS) (hd ▸ h)

/-- One operation alone may come up: behind it S is to be shown. -/
theorem AnyT.one {i : Nat} {o : Oper} {n : Nat} {listed : Array Bool} {a : Go.Act} {w : World} (hr : Region.ready md l.toArray listed = [i]) (ho : l[i]? = some o)
    (h : ∀ K' : Go.Act → World → Prop, Shut (∀ a w, S w → (S w → AnyT P md l.toArray Q S z n (listed.setIfInBounds i true) a w) → K' a w) → if Region.wanted o (yielded l.toArray a.tmps) = true then Oper.wp P o a w K' Q else K' (a.put o.dst undef) w) :
    AnyT P md l.toArray Q S z (n + 1) listed a w := by
  refine ⟨fun h0 => (by rw [hr] at h0; cases h0), fun j hj => ?_⟩
  rw [hr] at hj
  obtain rfl : j = i := by simpa using hj
  exact wpOp_step (by simpa using ho) (fun K' hK => h K' (fun a w hS hW => hK a w ⟨fun _ => hS, hW hS⟩))
/-- One operation alone may come up, and the tail has begun with it at the latest. -/
theorem AnyT.last {i : Nat} {o : Oper} {n : Nat} {listed : Array Bool} {a : Go.Act} {w : World} (hr : Region.ready md l.toArray listed = [i]) (ho : l[i]? = some o) (ht : tailBegun z (listed.setIfInBounds i true) = true)
    (h : ∀ K' : Go.Act → World → Prop, Shut (∀ a w, AnyT P md l.toArray Q S z n (listed.setIfInBounds i true) a w → K' a w) → if Region.wanted o (yielded l.toArray a.tmps) = true then Oper.wp P o a w K' Q else K' (a.put o.dst undef) w) :
    AnyT P md l.toArray Q S z (n + 1) listed a w := by
  refine ⟨fun h0 => (by rw [hr] at h0; cases h0), fun j hj => ?_⟩
  rw [hr] at hj
  obtain rfl : j = i := by simpa using hj
  exact wpOp_step (by simpa using ho) (fun K' hK => h K' (fun a w hW => hK a w ⟨fun h0 => (by rw [ht] at h0; cases h0), hW⟩))

end

end Go.Proofs.YtcjaaknnfohllaaGreatDoor
