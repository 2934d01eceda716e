/- The reference's texts of numbers walked: l01Text, l01Canon, IsCanon. -/
import Derived.Test.YtcjaaknnfohllaaGreatDoorNumT
namespace Go.Proofs.YtcjaaknnfohllaaGreatDoor
open Go.RowKit

theorem dg_digit {k : Nat} (h : k < 10) : dg (UInt8.ofNat (48 + k)) = k := by
  unfold dg; rw [UInt8.toNat_ofNat']; omega
theorem isDig_digit {k : Nat} (h : k < 10) : isDig (UInt8.ofNat (48 + k)) = true := by
  unfold isDig; rw [UInt8.toNat_ofNat']; simp; omega
theorem decDigits_val (u : Nat) : valFrom 0 (Go.Lib.decDigits u) = u := by
  induction u using Nat.strongRecOn with
  | _ u ih =>
    by_cases h : u < 10
    · rw [decDigits_small h, valFrom_cons, valFrom_nil, dg_digit h]; omega
    · rw [decDigits_big h, valFrom_append, ih (u / 10) (by omega), valFrom_cons, valFrom_nil, dg_digit (by omega)]; omega
theorem decDigits_dig (u : Nat) : ∀ c ∈ Go.Lib.decDigits u, isDig c = true := by
  induction u using Nat.strongRecOn with
  | _ u ih =>
    by_cases h : u < 10
    · rw [decDigits_small h]
      intro c hc
      rw [List.mem_singleton.1 hc]; exact isDig_digit h
    · rw [decDigits_big h]
      intro c hc
      rcases List.mem_append.1 hc with hc | hc
      · exact ih (u / 10) (by omega) c hc
      · rw [List.mem_singleton.1 hc]; exact isDig_digit (by omega)
theorem decDigits_ge (k u : Nat) (h : 10 ^ k ≤ u) : k + 1 ≤ (Go.Lib.decDigits u).length := by
  have h1 := valFrom_lt (Go.Lib.decDigits u) (decDigits_dig u)
  rw [decDigits_val] at h1
  have h2 : 10 ^ k < 10 ^ (Go.Lib.decDigits u).length := Nat.lt_of_le_of_lt h h1
  exact (Nat.pow_lt_pow_iff_right (by decide)).1 h2
theorem trimZ_nil {l : List UInt8} (h : trimZ l = []) : ∀ c ∈ l, c = 48 := by
  unfold trimZ at h
  rw [List.reverse_eq_nil_iff] at h
  intro c hc
  have h2 := List.takeWhile_append_dropWhile (p := fun x : UInt8 => x == 48) (l := l.reverse)
  rw [h, List.append_nil] at h2
  have h3 := mem_takeWhile_dig (fun x : UInt8 => x == 48) l.reverse c (by rw [h2]; exact List.mem_reverse.2 hc)
  simpa using h3
/-- The digits behind the point, with their zeros. -/
def fracD (r : Nat) : List UInt8 := (Go.Lib.decDigits (1000000 + r)).drop 1
theorem fracD_len {r : Nat} (h : r < 1000000) : (Go.Lib.decDigits (1000000 + r)).length = 7 := by
  have h1 := decDigits_len 6 (1000000 + r) (by omega)
  have h2 := decDigits_ge 6 (1000000 + r) (by omega)
  omega
theorem fracD_trim {r : Nat} (h0 : r ≠ 0) (h : r < 1000000) : trimZ (fracD r) ≠ [] := by
  intro he
  have h1 := trimZ_nil he
  have h2 := decDigits_val (1000000 + r)
  have h3 := fracD_len h
  unfold fracD at h1
  cases hd : Go.Lib.decDigits (1000000 + r) with
  | nil => rw [hd] at h3; cases h3
  | cons c l =>
    rw [hd] at h1 h2 h3
    have h4 : l = List.replicate 6 48 := List.eq_replicate_iff.2 ⟨by simpa using h3, h1⟩
    rw [valFrom_cons, valFrom_split, h4, valFrom_zeros, List.length_replicate] at h2
    omega
theorem fracT_eq {r : Nat} (h : r ≠ 0) : fracT r = 46 :: trimZ (fracD r) := by unfold fracT; rw [if_neg h]; rfl

def strLen : Value → Nat
  | .string s => s.size
  | _ => 0
theorem bytes_last (f : ByteArray) (h : f.size ≠ 0) : f.data.toList = f.data.toList.take (f.size - 1) ++ [f[f.size - 1]] := by
  have h1 := take_snoc' f.data.toList (f.size - 1) f[f.size - 1] (get_list f (f.size - 1) (by omega))
  rw [show f.size - 1 + 1 = f.size by omega] at h1
  rw [← h1, List.take_of_length_le (by simp)]

theorem bytes_drop1 (D : List UInt8) : ((⟨D.toArray⟩ : ByteArray).extract 1 D.length).data.toList = D.drop 1 := by
  rw [ByteArray.data_extract, Array.toList_extract, List.extract_eq_take_drop]
  exact List.take_of_length_le (by rw [List.length_drop]; exact Nat.le_refl _)
theorem bytes_pop (f : ByteArray) (n : Nat) : (f.extract 0 n).data.toList = f.data.toList.take n := by
  rw [ByteArray.data_extract, Array.toList_extract, List.extract_eq_take_drop]
  simp
theorem bytes_full (b : ByteArray) (h : b.size ≠ 0) : b.toList.isEmpty = false := by
  cases he : b.toList with
  | nil =>
    have : b = ⟨#[]⟩ := bytes_toList_inj.1 (he.trans (by simp))
    exact absurd (by rw [this]; rfl) h
  | cons _ _ => rfl
theorem absT_len30 (a : Nat) (h : a ≤ 1000000000000000000) : (absT a).length ≤ 30 := by
  unfold absT
  rw [List.length_append]
  have h1 : (wholeT (a / 1000000)).length ≤ 13 := by
    unfold wholeT
    split
    · simp
    · exact decDigits_len 12 _ (by omega)
  have h2 : (fracT (a % 1000000)).length ≤ 8 := by
    unfold fracT
    split
    · simp
    · rw [List.length_cons]
      have := trimZ_len ((Go.Lib.decDigits (1000000 + a % 1000000)).drop 1)
      have h3 := decDigits_len 6 (1000000 + a % 1000000) (by omega)
      rw [List.length_drop] at this
      omega
  omega
theorem bytes_beq (A : List UInt8) (s : ByteArray) : decide (A = s.data.toList) = (A == s.toList) := by
  rw [Lib.toList_data]
  by_cases h : A = s.data.toList
  · rw [decide_eq_true h, h]; simp
  · rw [decide_eq_false h]; simp [h]
theorem byte_dec (c : UInt8) : (c = 48 ∧ ((c.toNat : Int) == 48) = true) ∨ (c ≠ 48 ∧ ((c.toNat : Int) == 48) = false) := by
  by_cases h : c = 48
  · exact .inl ⟨h, by rw [h]; rfl⟩
  · refine .inr ⟨h, ?_⟩
    rw [beq_eq_false_iff_ne]
    exact fun e => h (u8_eq (by have : c.toNat = 48 := (by omega); rw [this]; rfl))

set_option maxHeartbeats 8000000 in
set_option maxRecDepth 100000 in
theorem l01Text_pos (a : Nat) (ha : a ≤ 1000000000000000000) (w : World) : Calls Tryz.prog 235 #[.int .i64 (a : Int)] w fun e w' => e = .returned (.string ⟨(if a = 0 then [48] else absT a).toArray⟩) ∧ Below w.heap.size w w' := by
  have h0 : ¬ ((a : Int) < 0) := by omega
  have hq : (a : Int) / 1000000 = ((a / 1000000 : Nat) : Int) := by omega
  have hqt : (a : Int).tdiv 1000000 = ((a / 1000000 : Nat) : Int) := (Int.ofNat_tdiv a 1000000).symm
  have hr : (a : Int) % 1000000 = ((a % 1000000 : Nat) : Int) := by omega
  have hrt : (a : Int).tmod 1000000 = ((a % 1000000 : Nat) : Int) := (Int.ofNat_tmod a 1000000).symm
  have hr6 : a % 1000000 < 1000000 := by omega
  have hq12 : a / 1000000 ≤ 1000000000000 := by omega
  have HA := Lib.hid (show absT a = wholeT (a / 1000000) ++ fracT (a % 1000000) from rfl)
  have HA0 := Lib.hid (show a = a / 1000000 * 1000000 + a % 1000000 by omega)
  generalize a / 1000000 = q at *
  generalize a % 1000000 = r at *
  have wq : IntKind.i64.wrap (q : Int) = (q : Int) := IntWalk.i64_in _ (by omega)
  have wr1 : IntKind.i64.wrap (r : Int) = (r : Int) := IntWalk.i64_in _ (by omega)
  have HW := Lib.hid (fun W => l01Whole_any q (by omega) W)
  have HF := Lib.hid (show ∀ W, Calls Tryz.prog 257 #[.int .i64 (1000000 + (r : Int))] W fun e w' => e = .returned (.string ⟨(wholeT (1000000 + r)).toArray⟩) ∧ Below W.heap.size W w' from fun W => (Int.natCast_add 1000000 r) ▸ l01Whole_any (1000000 + r) (by omega) W)
  have hwl : (wholeT q).length ≤ 13 := by unfold wholeT; split; exact Nat.zero_le _; exact decDigits_len 12 _ (by omega)
  generalize hT : (if a = 0 then [48] else absT a) = T
  have HT := Lib.hid hT; clear hT
  by_cases hr0 : r = 0
  · subst hr0
    have HAW := Lib.hid (show absT a = wholeT q by rw [HA.out, show fracT 0 = [] from if_pos rfl, List.append_nil])
    by_cases hq0 : q = 0
    · have hT : [48] = T := by rw [← HT.out, if_pos (by have := HA0.out; omega)]
      subst hT
      have hw0 : wholeT q = [] := by unfold wholeT; rw [if_pos hq0]
      rw [hw0] at HW
      clear hq0 hw0 HF HA HAW HT
      go_enter Tryz.func235, Tryz.ntmps235
      go_upto_region 3 with (fail)
      go_upto_region 4 with (first | fail | (refine (HW.out _).mono ?_; rintro e1 w1 ⟨rfl, hb1⟩))
      have HB1 := Lib.hid hb1; clear hb1
      go_wp2_with fail
      go_ret
      exact ⟨rfl, HB1.out⟩
    · have hT : wholeT q = T := by rw [← HT.out, if_neg (by have := HA0.out; omega), HAW.out]
      have he := bytes_full (⟨(wholeT q).toArray⟩ : ByteArray) (by
        unfold wholeT; rw [if_neg hq0]
        have := decDigits_ge 0 q (by omega)
        show (Go.Lib.decDigits q).toArray.size ≠ 0
        rw [List.size_toArray]; omega)
      rw [hT] at HW he
      have he2 : T.isEmpty = false := by
        cases T with
        | nil => exact absurd he (by rw [show (⟨[].toArray⟩ : ByteArray).toList = [] from by simp]; simp)
        | cons _ _ => rfl
      clear hT HA HAW HF HT
      go_enter Tryz.func235, Tryz.ntmps235
      go_upto_region 3 with (fail)
      go_upto_region 4 with (first | fail | (refine (HW.out _).mono ?_; rintro e1 w1 ⟨rfl, hb1⟩))
      have HB1 := Lib.hid hb1; clear hb1
      go_wp2_with fail
      go_ret
      exact ⟨rfl, HB1.out⟩
  · have hrp : (0 : Int) < (r : Int) := by omega
    have hwf : wholeT (1000000 + r) = Go.Lib.decDigits (1000000 + r) := by unfold wholeT; rw [if_neg (by omega)]
    have HDT := Lib.hid (show fracT r = 46 :: trimZ ((wholeT (1000000 + r)).drop 1) by rw [hwf, fracT_eq hr0]; rfl)
    have HDN := Lib.hid (show trimZ ((wholeT (1000000 + r)).drop 1) ≠ [] by rw [hwf]; exact fracD_trim hr0 hr6)
    have hD7 : (wholeT (1000000 + r)).length = 7 := by rw [hwf]; exact fracD_len hr6
    clear hwf
    generalize wholeT (1000000 + r) = D at *
    go_enter Tryz.func235, Tryz.ntmps235
    go_upto_region 3 with (fail)
    go_upto_region 4 with (first | fail | (refine (HW.out _).mono ?_; rintro e1 w1 ⟨rfl, hb1⟩))
    have HB1 := Lib.hid hb1; clear hb1
    go_upto_block 0 with (first | fail | (refine (HF.out _).mono ?_; rintro e1 w1 ⟨rfl, hb1⟩))
    have HB2 := Lib.hid (HB1.out.trans (hb1.mono HB1.out.size)); clear hb1
    go_cut [5] (fun v wr => ∃ f : ByteArray, v = .string f ∧ f.data.toList = trimZ (D.drop 1) ∧ Below w.heap.size w wr)
    case first =>
      go_wp2_with fail
      go_loopw [5] (fun v wr => ∃ f : ByteArray, v = .string f ∧ trimZ f.data.toList = trimZ (D.drop 1) ∧ f.size ≤ 7 ∧ Below w.heap.size w wr) (fun v _ => strLen v)
      case atStart =>
        have hd1 := bytes_drop1 D
        rw [hD7] at hd1
        refine ⟨_, rfl, by rw [hd1], ?_, HB2.out⟩
        have := congrArg List.length hd1
        simp at this ⊢; omega
      case round =>
        obtain ⟨f, rfl, htr, hfs, hbw⟩ := hrel
        have HBW := Lib.hid hbw; clear hbw
        have hf0 : f.size ≠ 0 := fun h => HDN.out (by rw [← htr, show f.data.toList = [] from List.eq_nil_of_length_eq_zero (by simpa using h)]; rfl)
        have hfl := bytes_last f hf0
        have HTR := Lib.hid htr; clear htr
        have i1 : (0 : Int) ≤ (f.size : Int) - 1 := by omega
        have HFL := Lib.hid hfl; clear hfl
        rcases byte_dec f[f.size - 1] with ⟨hc, q48⟩ | ⟨hc, q48⟩
        · have HC := Lib.hid hc; clear hc
          go_wp2_with fail
          go_roundw
          case rel => exact ⟨_, rfl, by rw [bytes_pop, ← HTR.out]; conv => rhs; rw [HFL.out, HC.out, trimZ_snoc0], by simp; omega, HBW.out⟩
          case measure => simp [strLen]; omega
        · have HC := Lib.hid hc; clear hc
          go_wp2_with fail
          go_meet
          case rel => exact ⟨_, rfl, by rw [← HTR.out]; conv => rhs; rw [HFL.out, trimZ_snoc _ _ HC.out, ← HFL.out], HBW.out⟩
    case rest =>
      obtain ⟨f, rfl, hfd, hbw⟩ := hcut
      have HBW := Lib.hid hbw; clear hbw
      have hfs : f.size ≤ 6 := by
        have h1 := congrArg List.length hfd
        have h2 := trimZ_len (D.drop 1)
        rw [List.length_drop] at h2
        rw [Array.length_toList] at h1
        have h3 : f.size = f.data.size := rfl
        omega
      have HFD := Lib.hid hfd; clear hfd
      have hne : ((⟨(wholeT q).toArray⟩ : ByteArray) ++ ((⟨#[46]⟩ : ByteArray) ++ f)).data.toList = absT a := by
        rw [HA.out, HDT.out, ByteArray.data_append, ByteArray.data_append, Array.toList_append, Array.toList_append, HFD.out]; rfl
      have HNE := Lib.hid hne; clear hne
      have hT : absT a = T := by rw [← HT.out, if_neg (by have := HA0.out; omega)]
      have HTT := Lib.hid hT; clear hT
      have he := bytes_full ((⟨(wholeT q).toArray⟩ : ByteArray) ++ ((⟨#[46]⟩ : ByteArray) ++ f)) (by rw [ByteArray.size_append, ByteArray.size_append]; show _ + (1 + _) ≠ 0; omega)
      go_wp2_with fail
      go_ret
      exact ⟨by rw [← HTT.out, ← HNE.out, Array.toArray_toList]; rfl, HBW.out⟩

set_option maxHeartbeats 4000000 in
set_option maxRecDepth 100000 in
theorem l01Text_neg (a : Nat) (ha : a ≤ 1000000000000000000) (h0 : a ≠ 0) (w : World) : Calls Tryz.prog 235 #[.int .i64 (-(a : Int))] w fun e w' => e = .returned (.string ⟨(45 :: absT a).toArray⟩) ∧ Below w.heap.size w w' := by
  have hn : -(a : Int) < 0 := by omega
  have hnn : - -(a : Int) = (a : Int) := by omega
  have HI := Lib.hid (fun W => l01Text_pos a ha W)
  have HT := Lib.hid (show (if a = 0 then [48] else absT a) = absT a from if_neg h0)
  have HC := Lib.hid (show ((⟨#[45]⟩ : ByteArray) ++ (⟨(absT a).toArray⟩ : ByteArray)) = ⟨(45 :: absT a).toArray⟩ from ByteArray.ext (by rw [ByteArray.data_append]; simp))
  have hlen : (absT a).length ≤ 30 := absT_len30 a ha
  generalize -(a : Int) = m at *
  generalize absT a = T at *
  go_enter Tryz.func235, Tryz.ntmps235
  go_wp2_with (first | fail | (refine (HI.out _).mono ?_; rintro e1 w1 ⟨rfl, hb1⟩; rw [HT.out]))
  have HB := Lib.hid hb1; clear hb1
  go_wp2_with fail
  go_ret
  exact ⟨by rw [HC.out]; rfl, HB.out⟩

theorem l01Text_any (n : Int) (hn : n.natAbs ≤ 1000000000000000000) (w : World) : Calls Tryz.prog 235 #[.int .i64 n] w fun e w' => e = .returned (.string ⟨(numText n).toArray⟩) ∧ Below w.heap.size w w' := by
  by_cases h : n < 0
  · obtain ⟨a, rfl⟩ : ∃ a : Nat, n = -(a : Int) := ⟨n.natAbs, by omega⟩
    have := l01Text_neg a (by omega) (by omega) w
    unfold numText
    rw [if_neg (by omega), if_pos h, show (-(a : Int)).natAbs = a by omega]
    exact this
  · obtain ⟨a, rfl⟩ : ∃ a : Nat, n = (a : Int) := ⟨n.natAbs, by omega⟩
    have := l01Text_pos a (by omega) w
    unfold numText
    rw [if_neg h, show ((a : Int)).natAbs = a by omega]
    by_cases h0 : a = 0
    · rw [if_pos h0] at this
      rw [if_pos (by omega)]; exact this
    · rw [if_neg h0] at this
      rw [if_neg (by omega)]; exact this

set_option maxHeartbeats 4000000 in
set_option maxRecDepth 100000 in
theorem l01Canon_any (s : ByteArray) (hs : s.size ≤ 1048576) (w : World) : Calls Tryz.prog 207 #[.string s] w fun e w' => e = .returned (.bool (canonB s.data.toList)) ∧ Below w.heap.size w w' := by
  have HO := Lib.hid (fun W => l01Of_any s hs W)
  have HTX := Lib.hid (fun W => l01Text_any (numOf s.data.toList) (by have := numOf_abs s.data.toList; unfold maxNum at this; omega) W)
  by_cases h0 : s.size = 0
  · obtain rfl : s = ⟨#[]⟩ := ByteArray.ext (Array.eq_empty_of_size_eq_zero h0)
    have HR := Lib.hid canonB_nil
    go_enter Tryz.func207, Tryz.ntmps207
    go_wp2_with fail
    go_ret
    exact ⟨by rw [HR.out]; rfl, Below.refl _ _⟩
  · have he := bytes_full s h0
    by_cases h21 : s.size ≤ 21
    · have hi : (s.size : Int) ≤ 21 := by omega
      have hB : canonB s.data.toList = (numText (numOf s.data.toList) == s.toList) := by
        unfold canonB
        generalize numText (numOf s.data.toList) = A
        exact bytes_beq A s
      have HR := Lib.hid hB; clear hB
      generalize hQ : canonB s.data.toList = Q at *
      clear hQ
      have hab := numOf_abs s.data.toList
      generalize numOf s.data.toList = n at *
      go_enter Tryz.func207, Tryz.ntmps207
      go_wp2_with (first | fail | (refine (HO.out _).mono ?_; rintro e1 w1 ⟨rfl, hb1⟩))
      have HB1 := Lib.hid hb1; clear hb1
      go_wp2_with (first | fail | (refine (HTX.out _).mono ?_; rintro e1 w1 ⟨rfl, hb1⟩))
      have HB2 := Lib.hid (HB1.out.trans (hb1.mono HB1.out.size)); clear hb1
      go_wp2_with fail
      go_ret
      exact ⟨by rw [HR.out]; rfl, HB2.out⟩
    · have hi : ¬ (s.size : Int) ≤ 21 := by omega
      have HR := Lib.hid (canonB_long (l := s.data.toList) (by rw [Array.length_toList]; show 21 < s.size; omega))
      go_enter Tryz.func207, Tryz.ntmps207
      go_wp2_with fail
      go_ret
      exact ⟨by rw [HR.out]; rfl, Below.refl _ _⟩

set_option maxHeartbeats 4000000 in
theorem specIsCanon_any (s : ByteArray) (hs : s.size ≤ 1048576) (w : World) : Calls Tryz.prog 157 #[.string s] w fun e w' => e = .returned (.bool (canonB s.data.toList)) ∧ Below w.heap.size w w' := by
  have HO := Lib.hid (fun W => l01Canon_any s hs W)
  go_enter Tryz.func157, Tryz.ntmps157
  go_wp2_with (first | fail | (refine (HO.out _).mono ?_; rintro e1 w1 ⟨rfl, hb1⟩))
  have HB1 := Lib.hid hb1; clear hb1
  go_wp2_with fail
  go_ret
  exact ⟨rfl, HB1.out⟩
end Go.Proofs.YtcjaaknnfohllaaGreatDoor
