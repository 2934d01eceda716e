/- The program's numbers walked: printable, isNum, digitsOf, scaled. -/
import Derived.Test.YtcjaaknnfohllaaGreatDoorNumU
import Derived.Test.YtcjaaknnfohllaaGreatDoorByt
import Derived.Test.YtcjaaknnfohllaaGreatDoorShelfM
import Derived.Shelf.Strings.SlTrimAscii
namespace Go.Proofs.YtcjaaknnfohllaaGreatDoor
open Go.RowKit

set_option maxHeartbeats 4000000 in
theorem printable_any (c : UInt8) (w : World) : Calls Tryz.prog 197 #[.int .u8 c.toNat] w fun e w' => e = .returned (.bool (showsC c)) ∧ w = w' := by
  have hd : showsC c = decide (32 ≤ c.toNat ∧ c.toNat ≤ 126) := rfl
  by_cases h1 : (32 : Int) ≤ (c.toNat : Int)
  · by_cases h2 : (c.toNat : Int) ≤ 126
    · rw [hd, decide_eq_true (by omega)]
      clear hd
      go_enter Tryz.func197, Tryz.ntmps197
      go_wp2_with fail
      go_ret
      exact ⟨rfl, rfl⟩
    · rw [hd, decide_eq_false (by omega)]
      clear hd
      go_enter Tryz.func197, Tryz.ntmps197
      go_wp2_with fail
      go_ret
      exact ⟨rfl, rfl⟩
  · rw [hd, decide_eq_false (by omega)]
    clear hd
    go_enter Tryz.func197, Tryz.ntmps197
    go_wp2_with fail
    go_ret
    exact ⟨rfl, rfl⟩

set_option maxHeartbeats 4000000 in
theorem isNum_yes (n : Int) (hn : n.natAbs ≤ maxNum) (w : World) : Calls Tryz.prog 251 #[.int .i64 n] w fun e w' => e = .returned (.bool true) ∧ w = w' := by
  have h1 : -999999999999999999 ≤ n := by unfold maxNum at hn; omega
  have h2 : n ≤ 999999999999999999 := by unfold maxNum at hn; omega
  clear hn
  have HW := Lib.hid (show ∀ W : World, Calls Tryz.prog 85 #[.int .i64 n, .int .i64 (-999999999999999999), .int .i64 999999999999999999] W fun e w' => e = .returned (.bool true) ∧ W = w' from fun W => by
    go_enter Tryz.func85, Tryz.ntmps85
    go_wp2_with fail
    go_ret
    exact ⟨rfl, rfl⟩)
  go_enter Tryz.func251, Tryz.ntmps251
  go_wp2_with (first | fail | (refine (HW.out _).mono ?_; rintro e1 w1 ⟨rfl, rfl⟩))
  go_ret
  exact ⟨rfl, rfl⟩

theorem len_list' (t : ByteArray) : t.data.toList.length = t.size := Array.length_toList
/-- strings.TrimLeft at a set of ASCII bytes. -/
theorem trimLeft_any (s cs : ByteArray) (hcs : cs.size < 4294967281) (ha : cs.data.toList.all (fun b => decide (b.toNat < 128)) = true) (w : World) :
    Calls Tryz.prog 106 #[.string s, .string cs] w fun e w' => e = .returned (.string ⟨(Lib.trimLeftS s.data.toList cs.data.toList).toArray⟩) ∧ Below w.heap.size w w' :=
  Any.strings_TrimLeft_laid Tryz.lays161 (by kernel_rfl) s cs w hcs (ascii_of_all ha)
theorem bytes_drop1' (D : List UInt8) (n : Nat) : ((⟨D.toArray⟩ : ByteArray).extract n D.length).data.toList = D.drop n := by
  rw [ByteArray.data_extract, Array.toList_extract, List.extract_eq_take_drop]
  exact List.take_of_length_le (by rw [List.length_drop]; exact Nat.le_refl _)
theorem dropWhile_len (p : UInt8 → Bool) (l : List UInt8) : l.length - (l.dropWhile p).length = (l.takeWhile p).length ∧ (l.dropWhile p).length ≤ l.length := by
  have h := congrArg List.length (List.takeWhile_append_dropWhile (p := p) (l := l))
  rw [List.length_append] at h
  omega

set_option maxHeartbeats 4000000 in
theorem digitsOf_any (s : ByteArray) (hs : s.size ≤ 1048576) (w : World) : Calls Tryz.prog 249 #[.string s] w fun e w' => e = .returned (.int .i64 ((s.data.toList.takeWhile isDig).length : Nat)) ∧ Below w.heap.size w w' := by
  have HT := Lib.hid (fun W => trimLeft_any s ⟨#[48, 49, 50, 51, 52, 53, 54, 55, 56, 57]⟩ (by decide) (by decide) W)
  rw [show (⟨#[48, 49, 50, 51, 52, 53, 54, 55, 56, 57]⟩ : ByteArray).data.toList = [48, 49, 50, 51, 52, 53, 54, 55, 56, 57] from rfl, trimLeft_dig] at HT
  have hl := dropWhile_len isDig s.data.toList
  rw [len_list'] at hl
  generalize s.data.toList.dropWhile isDig = D at *
  generalize s.data.toList.takeWhile isDig = N at *
  go_enter Tryz.func249, Tryz.ntmps249
  go_wp2_with (first | fail | (refine (HT.out _).mono ?_; rintro e1 w1 ⟨rfl, hb1⟩))
  go_ret
  exact ⟨by show Ending.returned (Value.int .i64 ((s.size : Int) - (D.length : Int))) = _; rw [show (s.size : Int) - (D.length : Int) = ((N.length : Nat) : Int) by omega], hb1⟩

set_option maxHeartbeats 8000000 in
set_option maxRecDepth 100000 in
theorem scaled_any (n : Nat) (hn : n ≤ maxNum) (s : ByteArray) (hs : s.size ≤ 1048576) (hd : ∀ c ∈ s.data.toList, isDig c = true) (w : World) :
    Calls Tryz.prog 250 #[.int .i64 (n : Int), .string s] w fun e w' => e = .returned (.int .i64 ((scaledP n s.data.toList : Nat) : Int)) ∧ Below w.heap.size w w' := by
  have HD := Lib.hid hd
  clear hd
  unfold maxNum at hn
  obtain ⟨cap1, w1, hcv, hcells, hbw, _⟩ := rowBytes w s
  have HCL := Lib.hid hcells; have HBW := Lib.hid hbw
  have hsz1 : w.heap.size < w1.heap.size := by omega
  clear hcells hbw
  go_enter Tryz.func250, Tryz.ntmps250
  go_wp2_with fail
  clear hcv
  go_loopw [0, 10] (fun m i wr => ∃ k nn : Nat, k ≤ s.size ∧ i = .int .i64 k ∧ m = .int .i64 (nn : Int) ∧ nn ≤ 999999999999999999 ∧ scaledP nn (s.data.toList.drop k) = scaledP n s.data.toList ∧ Below w1.heap.size w1 wr) (fun _ i _ => s.size - (intOf i).toNat)
  case atStart => exact ⟨0, n, Nat.zero_le _, rfl, rfl, hn, rfl, Below.refl _ _⟩
  case round =>
    obtain ⟨k, nn, hk, rfl, rfl, hnn, hsc, hbr⟩ := hrel
    have HSC := Lib.hid hsc; have HBR := Lib.hid hbr
    by_cases hlt : k < s.size
    · have i1 : (k : Int) < (s.size : Int) := by omega
      have i0 : (0 : Int) ≤ (k : Int) := by omega
      have hcell : wr.cell? ⟨w.heap.size, k, none⟩ = some (.int .u8 (s[k].toNat : Int)) := (hbr.cell (p := ⟨w.heap.size, k, none⟩) hsz1).trans (HCL.out k hlt)
      have hdc := HD.out s[k] (by
        have := get_list s k hlt
        exact List.mem_of_getElem? this)
      have h9 := dg_le hdc
      have hdv : ((s[k].toNat : Int) - 48) = (dg s[k] : Int) := by unfold isDig at hdc; unfold dg; simp only [decide_eq_true_eq] at hdc; omega
      have hdr : s.data.toList.drop k = s[k] :: s.data.toList.drop (k + 1) := List.drop_eq_getElem_cons (by rw [len_list']; exact hlt)
      have hst := HSC.out
      rw [hdr, scaledP_cons] at hst
      clear hdr hdc hsc hbr
      have hq : ((999999999999999999 : Int) - (dg s[k] : Int)) / 10 = (((maxNum - dg s[k]) / 10 : Nat) : Int) := by unfold maxNum; omega
      generalize hQ : (maxNum - dg s[k]) / 10 = q at *
      have hq1 : q ≤ 99999999999999999 := by unfold maxNum at hQ; omega
      have hq2 : 10 * q + dg s[k] ≤ 999999999999999999 := by unfold maxNum at hQ; omega
      clear hQ
      generalize dg s[k] = d at *
      by_cases hb : q < nn
      · rw [if_pos hb] at hst
        have HST := Lib.hid hst
        have hb' : (q : Int) < (nn : Int) := by omega
        clear hst
        go_wp2_with fail
        go_ret
        exact ⟨by rw [← HST.out]; rfl, HBW.out.trans (HBR.out.mono HBW.out.size)⟩
      · rw [if_neg hb] at hst
        have HST := Lib.hid hst
        have hb' : ¬ (q : Int) < (nn : Int) := by omega
        clear hst
        go_wp2_with fail
        go_roundw
        case rel => exact ⟨k + 1, 10 * nn + d, by omega, by go_num, by push_cast; rfl, by omega, HST.out, HBR.out⟩
        case measure => simp [intOf]; omega
    · have i1 : ¬ (k : Int) < (s.size : Int) := by omega
      have hst := HSC.out
      rw [List.drop_of_length_le (by rw [len_list']; omega), scaledP_nil] at hst
      have HST := Lib.hid hst
      clear hst
      go_wp2_with fail
      go_ret
      exact ⟨by rw [← HST.out]; rfl, HBW.out.trans (HBR.out.mono HBW.out.size)⟩

theorem scaled_arg (Wd F : List UInt8) : ((⟨Wd.toArray⟩ : ByteArray) ++ ((⟨F.toArray⟩ : ByteArray) ++ (⟨#[48, 48, 48, 48, 48, 48]⟩ : ByteArray)).extract 0 6).data.toList = Wd ++ fillP 6 F := by
  rw [ByteArray.data_append, Array.toList_append, bytes_pop, ByteArray.data_append, Array.toList_append]
  rfl

set_option maxHeartbeats 8000000 in
set_option maxRecDepth 100000 in
theorem numOf_any (s : ByteArray) (hs : s.size ≤ 65536) (w : World) : Calls Tryz.prog 223 #[.string s] w fun e w' => e = .returned (.int .i64 (numOf s.data.toList)) ∧ Below w.heap.size w w' := by
  have HT := Lib.hid (fun W => trimLeft_any s ⟨#[43, 45]⟩ (by decide) (by decide) W)
  rw [show (⟨#[43, 45]⟩ : ByteArray).data.toList = [43, 45] from rfl, trimLeft_sgn] at HT
  obtain ⟨hR1, hR2⟩ := dropWhile_len isSgn s.data.toList
  rw [len_list'] at hR1 hR2
  have hRt := take_while isSgn s.data.toList
  rw [len_list'] at hRt
  have hNO : numOf s.data.toList = if ((s.data.toList.takeWhile isSgn).count 45 % 2 == 1) then -(absOf s.data.toList : Int) else (absOf s.data.toList : Int) := rfl
  have hcl : (s.data.toList.takeWhile isSgn).count 45 ≤ 65536 := Nat.le_trans List.count_le_length (by omega)
  have hCT := fun W => Tryz.strings_Count_one (s.extract 0 (s.size - (s.data.toList.dropWhile isSgn).length)) 45 W
  rw [show Lib.countByte (s.extract 0 (s.size - (s.data.toList.dropWhile isSgn).length)).data.toList 45 = (s.data.toList.takeWhile isSgn).count 45 by rw [bytes_pop, hRt]; rfl] at hCT
  have HCT := Lib.hid hCT
  have HNO := Lib.hid hNO
  have HAB := Lib.hid (scaled_abs s.data.toList)
  have hW : wholeOf s.data.toList = (s.data.toList.dropWhile isSgn).takeWhile isDig := rfl
  have hB : behindOf s.data.toList = (s.data.toList.dropWhile isSgn).dropWhile isDig := rfl
  have hwd := wholeOf_dig s.data.toList
  have hfd := fracOf_dig s.data.toList
  have hF1 := fun h => fracOf_none (l := s.data.toList) h
  have hF2 := fun r h => fracOf_point (l := s.data.toList) (r := r) h
  have hab := absOf_le s.data.toList
  clear hNO hCT hRt
  generalize s.data.toList.dropWhile isSgn = R at *
  generalize (s.data.toList.takeWhile isSgn).count 45 = cnt at *
  rw [hR1] at HCT
  generalize (s.data.toList.takeWhile isSgn).length = sg at *
  generalize numOf s.data.toList = Z at *
  generalize absOf s.data.toList = ab at *
  generalize hWd : wholeOf s.data.toList = Wd at *
  generalize hBd : behindOf s.data.toList = B at *
  generalize hFd : fracOf s.data.toList = F at *
  have hx1 : (⟨R.toArray⟩ : ByteArray).extract 0 Wd.length = ⟨Wd.toArray⟩ := ByteArray.ext (by
    rw [ByteArray.data_extract]
    apply Array.toList_inj.1
    rw [Array.toList_extract, List.extract_eq_take_drop, hW]
    show ((R.drop 0).take ((R.takeWhile isDig).length - 0)) = _
    rw [List.drop_zero, Nat.sub_zero]
    exact List.prefix_iff_eq_take.1 (List.takeWhile_prefix isDig) |>.symm)
  have hx2 : (⟨R.toArray⟩ : ByteArray).extract Wd.length R.length = ⟨B.toArray⟩ := ByteArray.ext (by
    apply Array.toList_inj.1
    rw [bytes_drop1' R Wd.length, hB, ← drop_while, hW])
  have hBl : B.length ≤ R.length ∧ Wd.length ≤ R.length := by
    have := dropWhile_len isDig R
    rw [← hW, ← hB] at this
    omega
  obtain ⟨hBl1, hBl2⟩ := hBl
  have HDG := Lib.hid (fun W => digitsOf_any ⟨R.toArray⟩ (by show R.toArray.size ≤ _; simp; omega) W)
  rw [show (⟨R.toArray⟩ : ByteArray).data.toList = R from rfl, ← hW] at HDG
  have HCP := Lib.hid (fun W => Tryz.strings_CutPrefix ⟨B.toArray⟩ ⟨#[46]⟩ W)
  rw [show (⟨B.toArray⟩ : ByteArray).data.toList = B from rfl, show (⟨#[46]⟩ : ByteArray).data.toList = [46] from rfl] at HCP
  have wc2 : ((cnt : Int)).tmod 2 = ((cnt % 2 : Nat) : Int) := rfl
  have wc3 : (cnt : Int) % 2 = ((cnt % 2 : Nat) : Int) := by omega
  have hm2 : cnt % 2 ≤ 1 := by omega
  generalize cnt % 2 = par at *
  have hpar : ((par : Int) == 1) = (par == 1) := by
    rcases (show par = 0 ∨ par = 1 by omega) with rfl | rfl <;> rfl
  have HZ := Lib.hid HNO.out
  clear hW hB hWd hBd hFd HNO
  generalize (par == 1) = neg at *
  have hsc : ∀ W, Calls Tryz.prog 250 #[.int .i64 0, .string ((⟨Wd.toArray⟩ : ByteArray) ++ ((⟨F.toArray⟩ : ByteArray) ++ (⟨#[48, 48, 48, 48, 48, 48]⟩ : ByteArray)).extract 0 6)] W fun e w' => e = .returned (.int .i64 (ab : Int)) ∧ Below W.heap.size W w' := fun W => by
    have h1 := scaled_any 0 (Nat.zero_le _) ((⟨Wd.toArray⟩ : ByteArray) ++ ((⟨F.toArray⟩ : ByteArray) ++ (⟨#[48, 48, 48, 48, 48, 48]⟩ : ByteArray)).extract 0 6) (by
      rw [← len_list', scaled_arg, List.length_append, fillP_len]; omega) (by
      rw [scaled_arg]
      intro c hc
      rcases List.mem_append.1 hc with h | h
      · exact hwd c h
      · exact fillP_dig 6 F hfd c h) W
    rw [scaled_arg, HAB.out] at h1
    exact h1
  have HSC := Lib.hid hsc
  have hwl : ({ data := Wd.toArray } : ByteArray).size = Wd.length := by show Wd.toArray.size = _; simp
  unfold maxNum at hab
  clear hsc hwd hfd HAB
  by_cases hdot : ∃ r, B = 46 :: r
  · obtain ⟨r, rfl⟩ := hdot
    have hF := hF2 r rfl
    rw [show Lib.hasPrefix (46 :: r) [46] = true by simp [Lib.hasPrefix, List.isPrefixOf], show Lib.trimPrefix (46 :: r) [46] = r by simp [Lib.trimPrefix, Lib.hasPrefix, List.isPrefixOf]] at HCP
    have HDG2 := Lib.hid (fun W => digitsOf_any ⟨r.toArray⟩ (by show r.toArray.size ≤ _; simp at hBl1 ⊢; omega) W)
    rw [show (⟨r.toArray⟩ : ByteArray).data.toList = r from rfl, ← hF] at HDG2
    have hx3 : (⟨r.toArray⟩ : ByteArray).extract 0 F.length = ⟨F.toArray⟩ := ByteArray.ext (by
      rw [ByteArray.data_extract]
      apply Array.toList_inj.1
      rw [Array.toList_extract, List.extract_eq_take_drop, hF]
      show ((r.drop 0).take ((r.takeWhile isDig).length - 0)) = _
      rw [List.drop_zero, Nat.sub_zero]
      exact List.prefix_iff_eq_take.1 (List.takeWhile_prefix isDig) |>.symm)
    have hfl : F.length ≤ r.length := by rw [hF]; exact (List.takeWhile_sublist isDig (l := r)).length_le
    rw [List.length_cons] at hBl1
    clear hF hF1 hF2
    go_enter Tryz.func223, Tryz.ntmps223
    go_wp2_with fail
    refine (HT.out _).mono ?_; rintro e1 w1 ⟨rfl, hb1⟩
    go_wp2_with fail
    refine (HCT.out _).mono ?_; rintro e2 w2 ⟨rfl, rfl⟩
    go_wp2_with fail
    refine (HDG.out _).mono ?_; rintro e3 w3 ⟨rfl, hb3⟩
    go_wp2_with fail
    refine (HCP.out _).mono ?_; rintro e4 w4 ⟨rfl, rfl⟩
    go_wp2_with fail
    refine (HDG2.out _).mono ?_; rintro e5 w5 ⟨rfl, hb5⟩
    go_wp2_with fail
    refine (HSC.out _).mono ?_; rintro e6 w6 ⟨rfl, hb6⟩
    have HBX := Lib.hid (hb1.trans ((hb3.mono hb1.size).trans ((hb5.mono (Nat.le_trans hb1.size hb3.size)).trans (hb6.mono (Nat.le_trans hb1.size (Nat.le_trans hb3.size hb5.size))))))
    cases neg
    · go_wp2_with fail
      go_ret
      exact ⟨by rw [HZ.out]; rfl, HBX.out⟩
    · go_wp2_with fail
      go_ret
      exact ⟨by rw [HZ.out]; rfl, HBX.out⟩
  · have hF := hF1 (fun r e => hdot ⟨r, e⟩)
    have hpf : Lib.hasPrefix B [46] = false := by
      unfold Lib.hasPrefix
      cases B with
      | nil => rfl
      | cons b r =>
        rw [List.isPrefixOf]
        have : (46 == b) = false := by rw [beq_eq_false_iff_ne]; exact fun e => hdot ⟨r, by rw [e]⟩
        rw [this]; rfl
    rw [hpf, show Lib.trimPrefix B [46] = B by unfold Lib.trimPrefix; rw [hpf]; rfl] at HCP
    subst hF
    clear hF1 hF2 hdot hpf
    go_enter Tryz.func223, Tryz.ntmps223
    go_wp2_with fail
    refine (HT.out _).mono ?_; rintro e1 w1 ⟨rfl, hb1⟩
    go_wp2_with fail
    refine (HCT.out _).mono ?_; rintro e2 w2 ⟨rfl, rfl⟩
    go_wp2_with fail
    refine (HDG.out _).mono ?_; rintro e3 w3 ⟨rfl, hb3⟩
    go_wp2_with fail
    refine (HCP.out _).mono ?_; rintro e4 w4 ⟨rfl, rfl⟩
    go_wp2_with fail
    refine (HSC.out _).mono ?_; rintro e6 w6 ⟨rfl, hb6⟩
    have HBX := Lib.hid (hb1.trans ((hb3.mono hb1.size).trans (hb6.mono (Nat.le_trans hb1.size hb3.size))))
    cases neg
    · go_wp2_with fail
      go_ret
      exact ⟨by rw [HZ.out]; rfl, HBX.out⟩
    · go_wp2_with fail
      go_ret
      exact ⟨by rw [HZ.out]; rfl, HBX.out⟩
end Go.Proofs.YtcjaaknnfohllaaGreatDoor
