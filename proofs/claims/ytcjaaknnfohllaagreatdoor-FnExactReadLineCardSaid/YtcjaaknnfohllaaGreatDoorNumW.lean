/- The program's texts of numbers walked: FormatInt, NumText, IsCanon; what the library reads of the world. -/
import Derived.Test.YtcjaaknnfohllaaGreatDoorNumV
import Derived.Lib.AppendIntMem
namespace Go.Proofs.YtcjaaknnfohllaaGreatDoor
open Go.RowKit

/-- The table that strconv reads. -/
def TabsIn (w : World) : Prop := Lib.TabIs Tryz.prog w "internal/strconv.uint64pow10" .u64 Lib.pow10Tab
theorem TabsIn.below {w w' : World} (h : TabsIn w) (hb : Below w.heap.size w w') : TabsIn w' := by
  unfold TabsIn Lib.TabIs World.var? at h ⊢
  cases hg : Tryz.prog.globalNamed "internal/strconv.uint64pow10" with
  | none => rw [hg] at h; cases h
  | some g =>
    rw [hg] at h
    simp only [Option.bind_some] at h ⊢
    have hlt : g < w.heap.size := by
      rcases Nat.lt_or_ge g w.heap.size with h' | h'
      · exact h'
      · rw [Array.getElem?_eq_none h'] at h; cases h
    rw [hb.block g hlt]
    exact h
/-- And what package bytealg reads. -/
def EnvIn (w : World) : Prop := TabsIn w ∧ ∃ m, w.cell? ⟨0, 0, none⟩ = some (.int .i64 m)
theorem EnvIn.below {w w' : World} (h : EnvIn w) (hb : Below w.heap.size w w') : EnvIn w' := by
  refine ⟨h.1.below hb, ?_⟩
  obtain ⟨m, hm⟩ := h.2
  have hlt : 0 < w.heap.size := by
    rcases Nat.lt_or_ge 0 w.heap.size with h' | h'
    · exact h'
    · unfold World.cell? at hm
      rw [Array.getElem?_eq_none h'] at hm; cases hm
  exact ⟨m, (hb.cell (p := ⟨0, 0, none⟩) hlt).trans hm⟩

theorem formatInt_any (k : Nat) (hk : k ≤ 9223372036854775807) (w : World) (hT : TabsIn w) : Calls Tryz.prog 88 #[.int .i64 (k : Int), .int .i64 10] w fun e w' => e = .returned (.string ⟨(Go.Lib.decDigits k).toArray⟩) ∧ Below w.heap.size w w' := by
  refine (Tryz.strconv_FormatInt_10 (k : Int) (by omega) (by omega) w hT).mono ?_
  rintro e3 w3 ⟨rfl, q, os, rfl⟩
  refine ⟨?_, Lib.below_grow w.heap.size w (Nat.le_refl _) q os⟩
  unfold Lib.itoa
  rw [if_neg (by omega), Int.toNat_natCast]

theorem mk_app (A B : List UInt8) : ((⟨A.toArray⟩ : ByteArray) ++ ⟨B.toArray⟩) = ⟨(A ++ B).toArray⟩ := ByteArray.ext (by rw [ByteArray.data_append]; simp)
theorem mk_app1 (c : UInt8) (B : List UInt8) : ((⟨#[c]⟩ : ByteArray) ++ ⟨B.toArray⟩) = ⟨(c :: B).toArray⟩ := mk_app [c] B
theorem numText_split (n : Int) (h : n ≠ 0) : numText n = (if n < 0 then [45] else []) ++ absT n.natAbs := by
  unfold numText
  rw [if_neg h]
  split <;> rfl

set_option maxHeartbeats 8000000 in
set_option maxRecDepth 100000 in
theorem numText_any (n : Int) (hn : n.natAbs ≤ maxNum) (w : World) (hT : TabsIn w) : Calls Tryz.prog 226 #[.int .i64 n] w fun e w' => e = .returned (.string ⟨(numText n).toArray⟩) ∧ Below w.heap.size w w' := by
  have HT := Lib.hid hT; clear hT
  have HI := Lib.hid (fun W => isNum_yes n hn W)
  unfold maxNum at hn
  by_cases h0 : n = 0
  · have HR := Lib.hid (show numText n = [48] by unfold numText; exact if_pos h0)
    rw [HR.out]
    subst h0
    clear HR hn
    go_enter Tryz.func226, Tryz.ntmps226
    go_wp2_with fail
    refine (HI.out _).mono ?_; rintro e1 w1 ⟨rfl, rfl⟩
    go_wp2_with fail
    go_ret
    exact ⟨rfl, Below.refl _ _⟩
  · have HR := Lib.hid (numText_split n h0)
    have q0 : (n == 0) = false := by rw [beq_eq_false_iff_ne]; exact h0
    generalize numText n = R at *
    obtain ⟨a, ha⟩ : ∃ a, a = n.natAbs := ⟨_, rfl⟩
    rw [← ha] at HR
    have ha1 : 1 ≤ a := by omega
    have ha2 : a ≤ 999999999999999999 := by omega
    go_enter Tryz.func226, Tryz.ntmps226
    go_wp2_with fail
    refine (HI.out _).mono ?_; rintro e1 w1 ⟨rfl, rfl⟩
    go_upto_if 11 with fail
    go_cut [0, 3] (fun m t wr => m = .int .i64 (a : Int) ∧ t = .string ⟨(if n < 0 then [45] else [] : List UInt8).toArray⟩ ∧ w = wr)
    case first =>
      have HAA := Lib.hid ha
      clear ha
      by_cases hneg : n < 0
      · have hna : -n = (a : Int) := by have := HAA.out; omega
        go_wp2_with fail
        go_meet
        case rel => exact ⟨by first | rfl | rw [hna] | rw [HAA.out], by rw [if_pos hneg], rfl⟩
      · have hna : n = (a : Int) := by have := HAA.out; omega
        go_wp2_with fail
        go_meet
        case rel => exact ⟨by first | rfl | rw [hna], by rw [if_neg (by omega)], rfl⟩
    case rest =>
      obtain ⟨rfl, rfl, rfl⟩ := hcut
      have hPl : (if n < 0 then [45] else [] : List UInt8).length ≤ 1 := by split <;> simp
      generalize (if n < 0 then [45] else [] : List UInt8) = P at *
      clear hn h0 q0 ha HI
      have hab : absT a = wholeT (a / 1000000) ++ fracT (a % 1000000) := rfl
      have hq : (a : Int) / 1000000 = ((a / 1000000 : Nat) : Int) := by omega
      have hqt : (a : Int).tdiv 1000000 = ((a / 1000000 : Nat) : Int) := (Int.ofNat_tdiv a 1000000).symm
      have hr : (a : Int) % 1000000 = ((a % 1000000 : Nat) : Int) := by omega
      have hrt : (a : Int).tmod 1000000 = ((a % 1000000 : Nat) : Int) := (Int.ofNat_tmod a 1000000).symm
      have hr6 : a % 1000000 < 1000000 := by omega
      have hq12 : a / 1000000 ≤ 999999999999 := by omega
      have hge : (1000000 ≤ a) ↔ (a / 1000000 ≠ 0) := by omega
      rw [hab] at HR
      generalize a / 1000000 = q at *
      generalize a % 1000000 = r at *
      clear hab
      have hwl : (wholeT q).length ≤ 13 := by unfold wholeT; split; exact Nat.zero_le _; exact decDigits_len 12 _ (by omega)
      go_upto_if 15 with fail
      go_cut [3] (fun t wr => t = .string ⟨(P ++ wholeT q).toArray⟩ ∧ Below w.heap.size w wr)
      case first =>
        by_cases h6 : 1000000 ≤ a
        · have h6' : (1000000 : Int) ≤ (a : Int) := by omega
          have hwq : wholeT q = Go.Lib.decDigits q := by unfold wholeT; rw [if_neg (hge.1 h6)]
          have HF := Lib.hid (fun W h => formatInt_any q (by omega) W h)
          rw [← hwq] at HF
          clear hwq h6 hge
          generalize wholeT q = D at *
          generalize hdd : decide ((1000000 : Int) ≤ (a : Int)) = d
          obtain rfl : d = true := by rw [← hdd]; exact decide_eq_true h6'
          clear hdd h6'
          go_wp2_with fail
          refine (HF.out _ HT.out).mono ?_; rintro e2 w2 ⟨rfl, hb2⟩
          go_wp2_with fail
          go_meet
          case rel => exact ⟨by rw [mk_app], hb2⟩
        · have h6' : ¬ (1000000 : Int) ≤ (a : Int) := by omega
          have HQ := Lib.hid (show wholeT q = [] by unfold wholeT; rw [if_pos (Decidable.not_not.1 (fun h => h6 (hge.2 h)))])
          generalize hdd : decide ((1000000 : Int) ≤ (a : Int)) = d
          obtain rfl : d = false := by rw [← hdd]; exact decide_eq_false h6'
          clear hdd h6' h6 hge
          go_wp2_with fail
          go_meet
          case rel => exact ⟨by rw [HQ.out, List.append_nil], Below.refl _ _⟩
      case rest =>
        obtain ⟨rfl, hbw⟩ := hcut
        have hTw := Lib.hid (HT.out.below hbw)
        have HBW := Lib.hid hbw
        have hbs := hbw.size
        clear hbw hge HT
        by_cases hr0 : r = 0
        · have HRR := Lib.hid (show R = P ++ wholeT q by rw [HR.out, hr0, show fracT 0 = [] from if_pos rfl, List.append_nil])
          have hr0' : ¬ (0 : Int) < (r : Int) := by omega
          clear hr0 HR
          go_wp2_with fail
          go_ret
          exact ⟨by rw [HRR.out]; rfl, HBW.out⟩
        · have hrp : (0 : Int) < (r : Int) := by omega
          have HF := Lib.hid (show ∀ W, TabsIn W → Calls Tryz.prog 88 #[.int .i64 (1000000 + (r : Int)), .int .i64 10] W fun e w' => e = .returned (.string ⟨(Go.Lib.decDigits (1000000 + r)).toArray⟩) ∧ Below W.heap.size W w' from fun W h => (Int.natCast_add 1000000 r) ▸ formatInt_any (1000000 + r) (by omega) W h)
          have hD7 := fracD_len hr6
          have HFD := Lib.hid (show fracT r = 46 :: trimZ ((Go.Lib.decDigits (1000000 + r)).drop 1) by rw [fracT_eq hr0]; rfl)
          generalize Go.Lib.decDigits (1000000 + r) = D at *
          have hd1 := bytes_drop1 D
          rw [hD7] at hd1
          have HD1 := Lib.hid hd1
          have HD1s := Lib.hid (show ((⟨D.toArray⟩ : ByteArray).extract 1 7).size ≤ 7 by have := congrArg List.length hd1; simp at this ⊢; omega)
          clear hr0 hd1
          go_wp2_with fail
          refine (HF.out _ hTw.out).mono ?_; rintro e3 w3 ⟨rfl, hb3⟩
          go_wp2_with fail
          refine (Tryz.strings_TrimRight_one _ 48 (by decide) _ ?_).mono ?_
          · have := HD1s.out; omega
          rintro e4 w4 ⟨rfl, rfl⟩
          have HX := Lib.hid (show (Go.Lib.trimRightB ((⟨D.toArray⟩ : ByteArray).extract 1 7).data.toList 48) = trimZ (D.drop 1) by rw [HD1.out]; rfl)
          rw [HX.out]
          have HBX := Lib.hid (HBW.out.trans (hb3.mono hbs))
          clear hb3 HX HD1 HD1s HF
          have hZl := trimZ_len (D.drop 1)
          rw [List.length_drop, hD7] at hZl
          generalize trimZ (D.drop 1) = Z at *
          go_wp2_with fail
          go_ret
          exact ⟨by rw [HR.out, HFD.out, ← List.append_assoc, ← mk_app, ← mk_app1]; rfl, HBX.out⟩

set_option maxHeartbeats 4000000 in
set_option maxRecDepth 100000 in
theorem implIsCanon_any (s : ByteArray) (hs : s.size ≤ 65536) (w : World) (hT : TabsIn w) : Calls Tryz.prog 195 #[.string s] w fun e w' => e = .returned (.bool (canonB s.data.toList)) ∧ Below w.heap.size w w' := by
  have HT := Lib.hid hT; clear hT
  have HO := Lib.hid (fun W => numOf_any s hs W)
  have HTX := Lib.hid (fun W h => numText_any (numOf s.data.toList) (numOf_abs s.data.toList) W h)
  have hB : canonB s.data.toList = (numText (numOf s.data.toList) == s.toList) := by
    unfold canonB
    generalize numText (numOf s.data.toList) = A
    exact bytes_beq A s
  have HR := Lib.hid hB; clear hB
  generalize hQ : canonB s.data.toList = Q at *
  clear hQ
  generalize numOf s.data.toList = n at *
  go_enter Tryz.func195, Tryz.ntmps195
  go_wp2_with fail
  refine (HO.out _).mono ?_; rintro e1 w1 ⟨rfl, hb1⟩
  have HB1 := Lib.hid hb1; clear hb1
  go_wp2_with fail
  refine (HTX.out _ (HT.out.below HB1.out)).mono ?_; rintro e1 w1 ⟨rfl, hb1⟩
  have HB2 := Lib.hid (HB1.out.trans (hb1.mono HB1.out.size)); clear hb1
  go_wp2_with fail
  go_ret
  exact ⟨by rw [HR.out]; rfl, HB2.out⟩
end Go.Proofs.YtcjaaknnfohllaaGreatDoor
