/- The reference's texts of numbers walked: l01Text, l01Canon, IsCanon. -/
import Derived.Test.YtfibjcaidnofmaaGreatDoorJoinEXAi
import Derived.Test.YtfibjcaidnofmaaGreatDoorJoinEXAc
import Derived.Test.YtfibjcaidnofmaaGreatDoorShelfM
import Derived.Shelf.Strings.SlTrimAscii
namespace Go.Proofs.YtfibjcaidnofmaaGreatDoor
open Go.RowKit

theorem dg_digit {k : Nat} (h : k < 10) : dg (UInt8.ofNat (48 + k)) = k := by
  unfold dg; rw [UInt8.toNat_ofNat']; omega
theorem isDig_digit {k : Nat} (h : k < 10) : isDig (UInt8.ofNat (48 + k)) = true := by
  unfold isDig; rw [UInt8.toNat_ofNat']; simp; omega
theorem decDigits_val (u : Nat) : valFrom 0 (Go.Lib.decDigits u) = u := by
  induction u using Nat.strongRecOn with
  | _ u ih =>
    by_cases h : u < 10
    · rw [decDigits_small h, valFrom_cons, valFrom_nil, dg_digit h]; omega
    · rw [decDigits_big h, valFrom_append, ih (u / 10) (by omega), valFrom_cons, valFrom_nil, dg_digit (by omega)]; omega
theorem decDigits_dig (u : Nat) : ∀ c ∈ Go.Lib.decDigits u, isDig c = true := by
  induction u using Nat.strongRecOn with
  | _ u ih =>
    by_cases h : u < 10
    · rw [decDigits_small h]
      intro c hc
      rw [List.mem_singleton.1 hc]; exact isDig_digit h
    · rw [decDigits_big h]
      intro c hc
      rcases List.mem_append.1 hc with hc | hc
      · exact ih (u / 10) (by omega) c hc
      · rw [List.mem_singleton.1 hc]; exact isDig_digit (by omega)
theorem decDigits_ge (k u : Nat) (h : 10 ^ k ≤ u) : k + 1 ≤ (Go.Lib.decDigits u).length := by
  have h1 := valFrom_lt (Go.Lib.decDigits u) (decDigits_dig u)
  rw [decDigits_val] at h1
  have h2 : 10 ^ k < 10 ^ (Go.Lib.decDigits u).length := Nat.lt_of_le_of_lt h h1
  exact (Nat.pow_lt_pow_iff_right (by decide)).1 h2
theorem trimZ_nil {l : List UInt8} (h : trimZ l = []) : ∀ c ∈ l, c = 48 := by
  unfold trimZ at h
  rw [List.reverse_eq_nil_iff] at h
  intro c hc
  have h2 := List.takeWhile_append_dropWhile (p := fun x : UInt8 => x == 48) (l := l.reverse)
  rw [h, List.append_nil] at h2
  have h3 := mem_takeWhile_dig (fun x : UInt8 => x == 48) l.reverse c (by rw [h2]; exact List.mem_reverse.2 hc)
  simpa using h3
/-- The digits behind the point, with their zeros. -/
def fracD (r : Nat) : List UInt8 := (Go.Lib.decDigits (1000000 + r)).drop 1
theorem fracD_len {r : Nat} (h : r < 1000000) : (Go.Lib.decDigits (1000000 + r)).length = 7 := by
  have h1 := decDigits_len 6 (1000000 + r) (by omega)
  have h2 := decDigits_ge 6 (1000000 + r) (by omega)
  omega
theorem fracD_trim {r : Nat} (h0 : r ≠ 0) (h : r < 1000000) : trimZ (fracD r) ≠ [] := by
  intro he
  have h1 := trimZ_nil he
  have h2 := decDigits_val (1000000 + r)
  have h3 := fracD_len h
  unfold fracD at h1
  cases hd : Go.Lib.decDigits (1000000 + r) with
  | nil => rw [hd] at h3; cases h3
  | cons c l =>
    rw [hd] at h1 h2 h3
    have h4 : l = List.replicate 6 48 := List.eq_replicate_iff.2 ⟨by simpa using h3, h1⟩
    rw [valFrom_cons, valFrom_split, h4, valFrom_zeros, List.length_replicate] at h2
    omega
theorem fracT_eq {r : Nat} (h : r ≠ 0) : fracT r = 46 :: trimZ (fracD r) := by unfold fracT; rw [if_neg h]; rfl

def strLen : Value → Nat
  | .string s => s.size
  | _ => 0
theorem bytes_last (f : ByteArray) (h : f.size ≠ 0) : f.data.toList = f.data.toList.take (f.size - 1) ++ [f[f.size - 1]] := by
  have h1 := take_snoc' f.data.toList (f.size - 1) f[f.size - 1] (get_list f (f.size - 1) (by omega))
  rw [show f.size - 1 + 1 = f.size by omega] at h1
  rw [← h1, List.take_of_length_le (by simp)]

theorem bytes_drop1 (D : List UInt8) : ((⟨D.toArray⟩ : ByteArray).extract 1 D.length).data.toList = D.drop 1 := by
  rw [ByteArray.data_extract, Array.toList_extract, List.extract_eq_take_drop]
  exact List.take_of_length_le (by rw [List.length_drop]; exact Nat.le_refl _)
theorem bytes_pop (f : ByteArray) (n : Nat) : (f.extract 0 n).data.toList = f.data.toList.take n := by
  rw [ByteArray.data_extract, Array.toList_extract, List.extract_eq_take_drop]
  simp
theorem bytes_full (b : ByteArray) (h : b.size ≠ 0) : b.toList.isEmpty = false := by
  cases he : b.toList with
  | nil =>
    have : b = ⟨#[]⟩ := bytes_toList_inj.1 (he.trans (by simp))
    exact absurd (by rw [this]; rfl) h
  | cons _ _ => rfl
theorem absT_len30 (a : Nat) (h : a ≤ 1000000000000000000) : (absT a).length ≤ 30 := by
  unfold absT
  rw [List.length_append]
  have h1 : (wholeT (a / 1000000)).length ≤ 13 := by
    unfold wholeT
    split
    · simp
    · exact decDigits_len 12 _ (by omega)
  have h2 : (fracT (a % 1000000)).length ≤ 8 := by
    unfold fracT
    split
    · simp
    · rw [List.length_cons]
      have := trimZ_len ((Go.Lib.decDigits (1000000 + a % 1000000)).drop 1)
      have h3 := decDigits_len 6 (1000000 + a % 1000000) (by omega)
      rw [List.length_drop] at this
      omega
  omega
theorem bytes_beq (A : List UInt8) (s : ByteArray) : decide (A = s.data.toList) = (A == s.toList) := by
  rw [Lib.toList_data]
  by_cases h : A = s.data.toList
  · rw [decide_eq_true h, h]; simp
  · rw [decide_eq_false h]; simp [h]
theorem byte_dec (c : UInt8) : (c = 48 ∧ ((c.toNat : Int) == 48) = true) ∨ (c ≠ 48 ∧ ((c.toNat : Int) == 48) = false) := by
  by_cases h : c = 48
  · exact .inl ⟨h, by rw [h]; rfl⟩
  · refine .inr ⟨h, ?_⟩
    rw [beq_eq_false_iff_ne]
    exact fun e => h (u8_eq (by have : c.toNat = 48 := (by omega); rw [this]; rfl))

set_option maxHeartbeats 8000000 in
set_option maxRecDepth 100000 in
theorem l01Text_pos (a : Nat) (ha : a ≤ 1000000000000000000) (w : World) : Calls Tryz.prog 201 #[.int .i64 (a : Int)] w fun e w' => e = .returned (.string ⟨(if a = 0 then [48] else absT a).toArray⟩) ∧ Below w.heap.size w w' := by
  have h0 : ¬ ((a : Int) < 0) := by omega
  have hq : (a : Int) / 1000000 = ((a / 1000000 : Nat) : Int) := by omega
  have hqt : (a : Int).tdiv 1000000 = ((a / 1000000 : Nat) : Int) := (Int.ofNat_tdiv a 1000000).symm
  have hr : (a : Int) % 1000000 = ((a % 1000000 : Nat) : Int) := by omega
  have hrt : (a : Int).tmod 1000000 = ((a % 1000000 : Nat) : Int) := (Int.ofNat_tmod a 1000000).symm
  have hr6 : a % 1000000 < 1000000 := by omega
  have hq12 : a / 1000000 ≤ 1000000000000 := by omega
  have HA := Lib.hid (show absT a = wholeT (a / 1000000) ++ fracT (a % 1000000) from rfl)
  have HA0 := Lib.hid (show a = a / 1000000 * 1000000 + a % 1000000 by omega)
  generalize a / 1000000 = q at *
  generalize a % 1000000 = r at *
  have wq : IntKind.i64.wrap (q : Int) = (q : Int) := IntWalk.i64_in _ (by omega)
  have wr1 : IntKind.i64.wrap (r : Int) = (r : Int) := IntWalk.i64_in _ (by omega)
  have HW := Lib.hid (fun W => l01Whole_any q (by omega) W)
  have HF := Lib.hid (show ∀ W, Calls Tryz.prog 227 #[.int .i64 (1000000 + (r : Int))] W fun e w' => e = .returned (.string ⟨(wholeT (1000000 + r)).toArray⟩) ∧ Below W.heap.size W w' from fun W => (Int.natCast_add 1000000 r) ▸ l01Whole_any (1000000 + r) (by omega) W)
  have hwl : (wholeT q).length ≤ 13 := by unfold wholeT; split; exact Nat.zero_le _; exact decDigits_len 12 _ (by omega)
  generalize hT : (if a = 0 then [48] else absT a) = T
  have HT := Lib.hid hT; clear hT
  by_cases hr0 : r = 0
  · subst hr0
    have HAW := Lib.hid (show absT a = wholeT q by rw [HA.out, show fracT 0 = [] from if_pos rfl, List.append_nil])
    by_cases hq0 : q = 0
    · have hT : [48] = T := by rw [← HT.out, if_pos (by have := HA0.out; omega)]
      subst hT
      have hw0 : wholeT q = [] := by unfold wholeT; rw [if_pos hq0]
      rw [hw0] at HW
      clear hq0 hw0 HF HA HAW HT
      go_enter Tryz.func201, Tryz.ntmps201
      go_upto_region 3 with (fail)
      go_upto_region 4 with (first | fail | (refine (HW.out _).mono ?_; rintro e1 w1 ⟨rfl, hb1⟩))
      have HB1 := Lib.hid hb1; clear hb1
      go_wp2_with fail
      go_ret
      exact ⟨rfl, HB1.out⟩
    · have hT : wholeT q = T := by rw [← HT.out, if_neg (by have := HA0.out; omega), HAW.out]
      have he := bytes_full (⟨(wholeT q).toArray⟩ : ByteArray) (by
        unfold wholeT; rw [if_neg hq0]
        have := decDigits_ge 0 q (by omega)
        show (Go.Lib.decDigits q).toArray.size ≠ 0
        rw [List.size_toArray]; omega)
      rw [hT] at HW he
      have he2 : T.isEmpty = false := by
        cases T with
        | nil => exact absurd he (by rw [show (⟨[].toArray⟩ : ByteArray).toList = [] from by simp]; simp)
        | cons _ _ => rfl
      clear hT HA HAW HF HT
      go_enter Tryz.func201, Tryz.ntmps201
      go_upto_region 3 with (fail)
      go_upto_region 4 with (first | fail | (refine (HW.out _).mono ?_; rintro e1 w1 ⟨rfl, hb1⟩))
      have HB1 := Lib.hid hb1; clear hb1
      go_wp2_with fail
      go_ret
      exact ⟨rfl, HB1.out⟩
  · have hrp : (0 : Int) < (r : Int) := by omega
    have hwf : wholeT (1000000 + r) = Go.Lib.decDigits (1000000 + r) := by unfold wholeT; rw [if_neg (by omega)]
    have HDT := Lib.hid (show fracT r = 46 :: trimZ ((wholeT (1000000 + r)).drop 1) by rw [hwf, fracT_eq hr0]; rfl)
    have HDN := Lib.hid (show trimZ ((wholeT (1000000 + r)).drop 1) ≠ [] by rw [hwf]; exact fracD_trim hr0 hr6)
    have hD7 : (wholeT (1000000 + r)).length = 7 := by rw [hwf]; exact fracD_len hr6
    clear hwf
    generalize wholeT (1000000 + r) = D at *
    go_enter Tryz.func201, Tryz.ntmps201
    go_upto_region 3 with (fail)
    go_upto_region 4 with (first | fail | (refine (HW.out _).mono ?_; rintro e1 w1 ⟨rfl, hb1⟩))
    have HB1 := Lib.hid hb1; clear hb1
    go_upto_block 0 with (first | fail | (refine (HF.out _).mono ?_; rintro e1 w1 ⟨rfl, hb1⟩))
    have HB2 := Lib.hid (HB1.out.trans (hb1.mono HB1.out.size)); clear hb1
    go_cut [5] (fun v wr => ∃ f : ByteArray, v = .string f ∧ f.data.toList = trimZ (D.drop 1) ∧ Below w.heap.size w wr)
    case first =>
      go_wp2_with fail
      go_loopw [5] (fun v wr => ∃ f : ByteArray, v = .string f ∧ trimZ f.data.toList = trimZ (D.drop 1) ∧ f.size ≤ 7 ∧ Below w.heap.size w wr) (fun v _ => strLen v)
      case atStart =>
        have hd1 := bytes_drop1 D
        rw [hD7] at hd1
        refine ⟨_, rfl, by rw [hd1], ?_, HB2.out⟩
        have := congrArg List.length hd1
        simp at this ⊢; omega
      case round =>
        obtain ⟨f, rfl, htr, hfs, hbw⟩ := hrel
        have HBW := Lib.hid hbw; clear hbw
        have hf0 : f.size ≠ 0 := fun h => HDN.out (by rw [← htr, show f.data.toList = [] from List.eq_nil_of_length_eq_zero (by simpa using h)]; rfl)
        have hfl := bytes_last f hf0
        have HTR := Lib.hid htr; clear htr
        have i1 : (0 : Int) ≤ (f.size : Int) - 1 := by omega
        have HFL := Lib.hid hfl; clear hfl
        rcases byte_dec f[f.size - 1] with ⟨hc, q48⟩ | ⟨hc, q48⟩
        · have HC := Lib.hid hc; clear hc
          go_wp2_with fail
          go_roundw
          case rel => exact ⟨_, rfl, by rw [bytes_pop, ← HTR.out]; conv => rhs; rw [HFL.out, HC.out, trimZ_snoc0], by simp; omega, HBW.out⟩
          case measure => simp [strLen]; omega
        · have HC := Lib.hid hc; clear hc
          go_wp2_with fail
          go_meet
          case rel => exact ⟨_, rfl, by rw [← HTR.out]; conv => rhs; rw [HFL.out, trimZ_snoc _ _ HC.out, ← HFL.out], HBW.out⟩
    case rest =>
      obtain ⟨f, rfl, hfd, hbw⟩ := hcut
      have HBW := Lib.hid hbw; clear hbw
      have hfs : f.size ≤ 6 := by
        have h1 := congrArg List.length hfd
        have h2 := trimZ_len (D.drop 1)
        rw [List.length_drop] at h2
        rw [Array.length_toList] at h1
        have h3 : f.size = f.data.size := rfl
        omega
      have HFD := Lib.hid hfd; clear hfd
      have hne : ((⟨(wholeT q).toArray⟩ : ByteArray) ++ ((⟨#[46]⟩ : ByteArray) ++ f)).data.toList = absT a := by
        rw [HA.out, HDT.out, ByteArray.data_append, ByteArray.data_append, Array.toList_append, Array.toList_append, HFD.out]; rfl
      have HNE := Lib.hid hne; clear hne
      have hT : absT a = T := by rw [← HT.out, if_neg (by have := HA0.out; omega)]
      have HTT := Lib.hid hT; clear hT
      have he := bytes_full ((⟨(wholeT q).toArray⟩ : ByteArray) ++ ((⟨#[46]⟩ : ByteArray) ++ f)) (by rw [ByteArray.size_append, ByteArray.size_append]; show _ + (1 + _) ≠ 0; omega)
      go_wp2_with fail
      go_ret
      exact ⟨by rw [← HTT.out, ← HNE.out, Array.toArray_toList]; rfl, HBW.out⟩

set_option maxHeartbeats 4000000 in
set_option maxRecDepth 100000 in
theorem l01Text_neg (a : Nat) (ha : a ≤ 1000000000000000000) (h0 : a ≠ 0) (w : World) : Calls Tryz.prog 201 #[.int .i64 (-(a : Int))] w fun e w' => e = .returned (.string ⟨(45 :: absT a).toArray⟩) ∧ Below w.heap.size w w' := by
  have hn : -(a : Int) < 0 := by omega
  have hnn : - -(a : Int) = (a : Int) := by omega
  have HI := Lib.hid (fun W => l01Text_pos a ha W)
  have HT := Lib.hid (show (if a = 0 then [48] else absT a) = absT a from if_neg h0)
  have HC := Lib.hid (show ((⟨#[45]⟩ : ByteArray) ++ (⟨(absT a).toArray⟩ : ByteArray)) = ⟨(45 :: absT a).toArray⟩ from ByteArray.ext (by rw [ByteArray.data_append]; simp))
  have hlen : (absT a).length ≤ 30 := absT_len30 a ha
  generalize -(a : Int) = m at *
  generalize absT a = T at *
  go_enter Tryz.func201, Tryz.ntmps201
  go_wp2_with (first | fail | (refine (HI.out _).mono ?_; rintro e1 w1 ⟨rfl, hb1⟩; rw [HT.out]))
  have HB := Lib.hid hb1; clear hb1
  go_wp2_with fail
  go_ret
  exact ⟨by rw [HC.out]; rfl, HB.out⟩

theorem l01Text_any (n : Int) (hn : n.natAbs ≤ 1000000000000000000) (w : World) : Calls Tryz.prog 201 #[.int .i64 n] w fun e w' => e = .returned (.string ⟨(numText n).toArray⟩) ∧ Below w.heap.size w w' := by
  by_cases h : n < 0
  · obtain ⟨a, rfl⟩ : ∃ a : Nat, n = -(a : Int) := ⟨n.natAbs, by omega⟩
    have := l01Text_neg a (by omega) (by omega) w
    unfold numText
    rw [if_neg (by omega), if_pos h, show (-(a : Int)).natAbs = a by omega]
    exact this
  · obtain ⟨a, rfl⟩ : ∃ a : Nat, n = (a : Int) := ⟨n.natAbs, by omega⟩
    have := l01Text_pos a (by omega) w
    unfold numText
    rw [if_neg h, show ((a : Int)).natAbs = a by omega]
    by_cases h0 : a = 0
    · rw [if_pos h0] at this
      rw [if_pos (by omega)]; exact this
    · rw [if_neg h0] at this
      rw [if_neg (by omega)]; exact this

set_option maxHeartbeats 4000000 in
set_option maxRecDepth 100000 in
theorem l01Canon_any (s : ByteArray) (hs : s.size ≤ 1048576) (w : World) : Calls Tryz.prog 170 #[.string s] w fun e w' => e = .returned (.bool (canonB s.data.toList)) ∧ Below w.heap.size w w' := by
  have HO := Lib.hid (fun W => l01Of_any s hs W)
  have HTX := Lib.hid (fun W => l01Text_any (numOf s.data.toList) (by have := numOf_abs s.data.toList; unfold maxNum at this; omega) W)
  by_cases h0 : s.size = 0
  · obtain rfl : s = ⟨#[]⟩ := ByteArray.ext (Array.eq_empty_of_size_eq_zero h0)
    have HR := Lib.hid canonB_nil
    go_enter Tryz.func170, Tryz.ntmps170
    go_wp2_with fail
    go_ret
    exact ⟨by rw [HR.out]; rfl, Below.refl _ _⟩
  · have he := bytes_full s h0
    by_cases h21 : s.size ≤ 21
    · have hi : (s.size : Int) ≤ 21 := by omega
      have hB : canonB s.data.toList = (numText (numOf s.data.toList) == s.toList) := by
        unfold canonB
        generalize numText (numOf s.data.toList) = A
        exact bytes_beq A s
      have HR := Lib.hid hB; clear hB
      generalize hQ : canonB s.data.toList = Q at *
      clear hQ
      have hab := numOf_abs s.data.toList
      generalize numOf s.data.toList = n at *
      go_enter Tryz.func170, Tryz.ntmps170
      go_wp2_with (first | fail | (refine (HO.out _).mono ?_; rintro e1 w1 ⟨rfl, hb1⟩))
      have HB1 := Lib.hid hb1; clear hb1
      go_wp2_with (first | fail | (refine (HTX.out _).mono ?_; rintro e1 w1 ⟨rfl, hb1⟩))
      have HB2 := Lib.hid (HB1.out.trans (hb1.mono HB1.out.size)); clear hb1
      go_wp2_with fail
      go_ret
      exact ⟨by rw [HR.out]; rfl, HB2.out⟩
    · have hi : ¬ (s.size : Int) ≤ 21 := by omega
      have HR := Lib.hid (canonB_long (l := s.data.toList) (by rw [Array.length_toList]; show 21 < s.size; omega))
      go_enter Tryz.func170, Tryz.ntmps170
      go_wp2_with fail
      go_ret
      exact ⟨by rw [HR.out]; rfl, Below.refl _ _⟩

set_option maxHeartbeats 4000000 in
theorem specIsCanon_any (s : ByteArray) (hs : s.size ≤ 1048576) (w : World) : Calls Tryz.prog 123 #[.string s] w fun e w' => e = .returned (.bool (canonB s.data.toList)) ∧ Below w.heap.size w w' := by
  have HO := Lib.hid (fun W => l01Canon_any s hs W)
  go_enter Tryz.func123, Tryz.ntmps123
  go_wp2_with (first | fail | (refine (HO.out _).mono ?_; rintro e1 w1 ⟨rfl, hb1⟩))
  have HB1 := Lib.hid hb1; clear hb1
  go_wp2_with fail
  go_ret
  exact ⟨rfl, HB1.out⟩
end Go.Proofs.YtfibjcaidnofmaaGreatDoor

/- The program's numbers walked: printable, isNum, digitsOf, scaled. -/
namespace Go.Proofs.YtfibjcaidnofmaaGreatDoor
open Go.RowKit

set_option maxHeartbeats 4000000 in
theorem printable_any (c : UInt8) (w : World) : Calls Tryz.prog 130 #[.int .u8 c.toNat] w fun e w' => e = .returned (.bool (showsC c)) ∧ w = w' := by
  have hd : showsC c = decide (32 ≤ c.toNat ∧ c.toNat ≤ 126) := rfl
  by_cases h1 : (32 : Int) ≤ (c.toNat : Int)
  · by_cases h2 : (c.toNat : Int) ≤ 126
    · rw [hd, decide_eq_true (by omega)]
      clear hd
      go_enter Tryz.func130, Tryz.ntmps130
      go_wp2_with fail
      go_ret
      exact ⟨rfl, rfl⟩
    · rw [hd, decide_eq_false (by omega)]
      clear hd
      go_enter Tryz.func130, Tryz.ntmps130
      go_wp2_with fail
      go_ret
      exact ⟨rfl, rfl⟩
  · rw [hd, decide_eq_false (by omega)]
    clear hd
    go_enter Tryz.func130, Tryz.ntmps130
    go_wp2_with fail
    go_ret
    exact ⟨rfl, rfl⟩

set_option maxHeartbeats 4000000 in
theorem isNum_yes (n : Int) (hn : n.natAbs ≤ maxNum) (w : World) : Calls Tryz.prog 203 #[.int .i64 n] w fun e w' => e = .returned (.bool true) ∧ w = w' := by
  have h1 : -999999999999999999 ≤ n := by unfold maxNum at hn; omega
  have h2 : n ≤ 999999999999999999 := by unfold maxNum at hn; omega
  clear hn
  have HW := Lib.hid (show ∀ W : World, Calls Tryz.prog 229 #[.int .i64 n, .int .i64 (-999999999999999999), .int .i64 999999999999999999] W fun e w' => e = .returned (.bool true) ∧ W = w' from fun W => by
    go_enter Tryz.func229, Tryz.ntmps229
    go_wp2_with fail
    go_ret
    exact ⟨rfl, rfl⟩)
  go_enter Tryz.func203, Tryz.ntmps203
  go_wp2_with (first | fail | (refine (HW.out _).mono ?_; rintro e1 w1 ⟨rfl, rfl⟩))
  go_ret
  exact ⟨rfl, rfl⟩

theorem len_list' (t : ByteArray) : t.data.toList.length = t.size := Array.length_toList
/-- strings.TrimLeft at a set of ASCII bytes. -/
theorem trimLeft_any (s cs : ByteArray) (hcs : cs.size < 4294967281) (ha : cs.data.toList.all (fun b => decide (b.toNat < 128)) = true) (w : World) :
    Calls Tryz.prog 91 #[.string s, .string cs] w fun e w' => e = .returned (.string ⟨(Lib.trimLeftS s.data.toList cs.data.toList).toArray⟩) ∧ Below w.heap.size w w' :=
  Any.strings_TrimLeft_laid Tryz.lays161 (by kernel_rfl) s cs w hcs (ascii_of_all ha)
theorem bytes_drop1' (D : List UInt8) (n : Nat) : ((⟨D.toArray⟩ : ByteArray).extract n D.length).data.toList = D.drop n := by
  rw [ByteArray.data_extract, Array.toList_extract, List.extract_eq_take_drop]
  exact List.take_of_length_le (by rw [List.length_drop]; exact Nat.le_refl _)
theorem dropWhile_len (p : UInt8 → Bool) (l : List UInt8) : l.length - (l.dropWhile p).length = (l.takeWhile p).length ∧ (l.dropWhile p).length ≤ l.length := by
  have h := congrArg List.length (List.takeWhile_append_dropWhile (p := p) (l := l))
  rw [List.length_append] at h
  omega

set_option maxHeartbeats 4000000 in
theorem digitsOf_any (s : ByteArray) (hs : s.size ≤ 1048576) (w : World) : Calls Tryz.prog 206 #[.string s] w fun e w' => e = .returned (.int .i64 ((s.data.toList.takeWhile isDig).length : Nat)) ∧ Below w.heap.size w w' := by
  have HT := Lib.hid (fun W => trimLeft_any s ⟨#[48, 49, 50, 51, 52, 53, 54, 55, 56, 57]⟩ (by decide) (by decide) W)
  rw [show (⟨#[48, 49, 50, 51, 52, 53, 54, 55, 56, 57]⟩ : ByteArray).data.toList = [48, 49, 50, 51, 52, 53, 54, 55, 56, 57] from rfl, trimLeft_dig] at HT
  have hl := dropWhile_len isDig s.data.toList
  rw [len_list'] at hl
  generalize s.data.toList.dropWhile isDig = D at *
  generalize s.data.toList.takeWhile isDig = N at *
  go_enter Tryz.func206, Tryz.ntmps206
  go_wp2_with (first | fail | (refine (HT.out _).mono ?_; rintro e1 w1 ⟨rfl, hb1⟩))
  go_ret
  exact ⟨by show Ending.returned (Value.int .i64 ((s.size : Int) - (D.length : Int))) = _; rw [show (s.size : Int) - (D.length : Int) = ((N.length : Nat) : Int) by omega], hb1⟩

set_option maxHeartbeats 8000000 in
set_option maxRecDepth 100000 in
theorem scaled_any (n : Nat) (hn : n ≤ maxNum) (s : ByteArray) (hs : s.size ≤ 1048576) (hd : ∀ c ∈ s.data.toList, isDig c = true) (w : World) :
    Calls Tryz.prog 207 #[.int .i64 (n : Int), .string s] w fun e w' => e = .returned (.int .i64 ((scaledP n s.data.toList : Nat) : Int)) ∧ Below w.heap.size w w' := by
  have HD := Lib.hid hd
  clear hd
  unfold maxNum at hn
  obtain ⟨cap1, w1, hcv, hcells, hbw, _⟩ := rowBytes w s
  have HCL := Lib.hid hcells; have HBW := Lib.hid hbw
  have hsz1 : w.heap.size < w1.heap.size := by omega
  clear hcells hbw
  go_enter Tryz.func207, Tryz.ntmps207
  go_wp2_with fail
  clear hcv
  go_loopw [0, 10] (fun m i wr => ∃ k nn : Nat, k ≤ s.size ∧ i = .int .i64 k ∧ m = .int .i64 (nn : Int) ∧ nn ≤ 999999999999999999 ∧ scaledP nn (s.data.toList.drop k) = scaledP n s.data.toList ∧ Below w1.heap.size w1 wr) (fun _ i _ => s.size - (intOf i).toNat)
  case atStart => exact ⟨0, n, Nat.zero_le _, rfl, rfl, hn, rfl, Below.refl _ _⟩
  case round =>
    obtain ⟨k, nn, hk, rfl, rfl, hnn, hsc, hbr⟩ := hrel
    have HSC := Lib.hid hsc; have HBR := Lib.hid hbr
    by_cases hlt : k < s.size
    · have i1 : (k : Int) < (s.size : Int) := by omega
      have i0 : (0 : Int) ≤ (k : Int) := by omega
      have hcell : wr.cell? ⟨w.heap.size, k, none⟩ = some (.int .u8 (s[k].toNat : Int)) := (hbr.cell (p := ⟨w.heap.size, k, none⟩) hsz1).trans (HCL.out k hlt)
      have hdc := HD.out s[k] (by
        have := get_list s k hlt
        exact List.mem_of_getElem? this)
      have h9 := dg_le hdc
      have hdv : ((s[k].toNat : Int) - 48) = (dg s[k] : Int) := by unfold isDig at hdc; unfold dg; simp only [decide_eq_true_eq] at hdc; omega
      have hdr : s.data.toList.drop k = s[k] :: s.data.toList.drop (k + 1) := List.drop_eq_getElem_cons (by rw [len_list']; exact hlt)
      have hst := HSC.out
      rw [hdr, scaledP_cons] at hst
      clear hdr hdc hsc hbr
      have hq : ((999999999999999999 : Int) - (dg s[k] : Int)) / 10 = (((maxNum - dg s[k]) / 10 : Nat) : Int) := by unfold maxNum; omega
      generalize hQ : (maxNum - dg s[k]) / 10 = q at *
      have hq1 : q ≤ 99999999999999999 := by unfold maxNum at hQ; omega
      have hq2 : 10 * q + dg s[k] ≤ 999999999999999999 := by unfold maxNum at hQ; omega
      clear hQ
      generalize dg s[k] = d at *
      by_cases hb : q < nn
      · rw [if_pos hb] at hst
        have HST := Lib.hid hst
        have hb' : (q : Int) < (nn : Int) := by omega
        clear hst
        go_wp2_with fail
        go_ret
        exact ⟨by rw [← HST.out]; rfl, HBW.out.trans (HBR.out.mono HBW.out.size)⟩
      · rw [if_neg hb] at hst
        have HST := Lib.hid hst
        have hb' : ¬ (q : Int) < (nn : Int) := by omega
        clear hst
        go_wp2_with fail
        go_roundw
        case rel => exact ⟨k + 1, 10 * nn + d, by omega, by go_num, by push_cast; rfl, by omega, HST.out, HBR.out⟩
        case measure => simp [intOf]; omega
    · have i1 : ¬ (k : Int) < (s.size : Int) := by omega
      have hst := HSC.out
      rw [List.drop_of_length_le (by rw [len_list']; omega), scaledP_nil] at hst
      have HST := Lib.hid hst
      clear hst
      go_wp2_with fail
      go_ret
      exact ⟨by rw [← HST.out]; rfl, HBW.out.trans (HBR.out.mono HBW.out.size)⟩

theorem scaled_arg (Wd F : List UInt8) : ((⟨Wd.toArray⟩ : ByteArray) ++ ((⟨F.toArray⟩ : ByteArray) ++ (⟨#[48, 48, 48, 48, 48, 48]⟩ : ByteArray)).extract 0 6).data.toList = Wd ++ fillP 6 F := by
  rw [ByteArray.data_append, Array.toList_append, bytes_pop, ByteArray.data_append, Array.toList_append]
  rfl

set_option maxHeartbeats 8000000 in
set_option maxRecDepth 100000 in
theorem numOf_any (s : ByteArray) (hs : s.size ≤ 65536) (w : World) : Calls Tryz.prog 173 #[.string s] w fun e w' => e = .returned (.int .i64 (numOf s.data.toList)) ∧ Below w.heap.size w w' := by
  have HT := Lib.hid (fun W => trimLeft_any s ⟨#[43, 45]⟩ (by decide) (by decide) W)
  rw [show (⟨#[43, 45]⟩ : ByteArray).data.toList = [43, 45] from rfl, trimLeft_sgn] at HT
  obtain ⟨hR1, hR2⟩ := dropWhile_len isSgn s.data.toList
  rw [len_list'] at hR1 hR2
  have hRt := take_while isSgn s.data.toList
  rw [len_list'] at hRt
  have hNO : numOf s.data.toList = if ((s.data.toList.takeWhile isSgn).count 45 % 2 == 1) then -(absOf s.data.toList : Int) else (absOf s.data.toList : Int) := rfl
  have hcl : (s.data.toList.takeWhile isSgn).count 45 ≤ 65536 := Nat.le_trans List.count_le_length (by omega)
  have hCT := fun W => Tryz.strings_Count_one (s.extract 0 (s.size - (s.data.toList.dropWhile isSgn).length)) 45 W
  rw [show Lib.countByte (s.extract 0 (s.size - (s.data.toList.dropWhile isSgn).length)).data.toList 45 = (s.data.toList.takeWhile isSgn).count 45 by rw [bytes_pop, hRt]; rfl] at hCT
  have HCT := Lib.hid hCT
  have HNO := Lib.hid hNO
  have HAB := Lib.hid (scaled_abs s.data.toList)
  have hW : wholeOf s.data.toList = (s.data.toList.dropWhile isSgn).takeWhile isDig := rfl
  have hB : behindOf s.data.toList = (s.data.toList.dropWhile isSgn).dropWhile isDig := rfl
  have hwd := wholeOf_dig s.data.toList
  have hfd := fracOf_dig s.data.toList
  have hF1 := fun h => fracOf_none (l := s.data.toList) h
  have hF2 := fun r h => fracOf_point (l := s.data.toList) (r := r) h
  have hab := absOf_le s.data.toList
  clear hNO hCT hRt
  generalize s.data.toList.dropWhile isSgn = R at *
  generalize (s.data.toList.takeWhile isSgn).count 45 = cnt at *
  rw [hR1] at HCT
  generalize (s.data.toList.takeWhile isSgn).length = sg at *
  generalize numOf s.data.toList = Z at *
  generalize absOf s.data.toList = ab at *
  generalize hWd : wholeOf s.data.toList = Wd at *
  generalize hBd : behindOf s.data.toList = B at *
  generalize hFd : fracOf s.data.toList = F at *
  have hx1 : (⟨R.toArray⟩ : ByteArray).extract 0 Wd.length = ⟨Wd.toArray⟩ := ByteArray.ext (by
    rw [ByteArray.data_extract]
    apply Array.toList_inj.1
    rw [Array.toList_extract, List.extract_eq_take_drop, hW]
    show ((R.drop 0).take ((R.takeWhile isDig).length - 0)) = _
    rw [List.drop_zero, Nat.sub_zero]
    exact List.prefix_iff_eq_take.1 (List.takeWhile_prefix isDig) |>.symm)
  have hx2 : (⟨R.toArray⟩ : ByteArray).extract Wd.length R.length = ⟨B.toArray⟩ := ByteArray.ext (by
    apply Array.toList_inj.1
    rw [bytes_drop1' R Wd.length, hB, ← drop_while, hW])
  have hBl : B.length ≤ R.length ∧ Wd.length ≤ R.length := by
    have := dropWhile_len isDig R
    rw [← hW, ← hB] at this
    omega
  obtain ⟨hBl1, hBl2⟩ := hBl
  have HDG := Lib.hid (fun W => digitsOf_any ⟨R.toArray⟩ (by show R.toArray.size ≤ _; simp; omega) W)
  rw [show (⟨R.toArray⟩ : ByteArray).data.toList = R from rfl, ← hW] at HDG
  have HCP := Lib.hid (fun W => Tryz.strings_CutPrefix ⟨B.toArray⟩ ⟨#[46]⟩ W)
  rw [show (⟨B.toArray⟩ : ByteArray).data.toList = B from rfl, show (⟨#[46]⟩ : ByteArray).data.toList = [46] from rfl] at HCP
  have wc2 : ((cnt : Int)).tmod 2 = ((cnt % 2 : Nat) : Int) := rfl
  have wc3 : (cnt : Int) % 2 = ((cnt % 2 : Nat) : Int) := by omega
  have hm2 : cnt % 2 ≤ 1 := by omega
  generalize cnt % 2 = par at *
  have hpar : ((par : Int) == 1) = (par == 1) := by
    rcases (show par = 0 ∨ par = 1 by omega) with rfl | rfl <;> rfl
  have HZ := Lib.hid HNO.out
  clear hW hB hWd hBd hFd HNO
  generalize (par == 1) = neg at *
  have hsc : ∀ W, Calls Tryz.prog 207 #[.int .i64 0, .string ((⟨Wd.toArray⟩ : ByteArray) ++ ((⟨F.toArray⟩ : ByteArray) ++ (⟨#[48, 48, 48, 48, 48, 48]⟩ : ByteArray)).extract 0 6)] W fun e w' => e = .returned (.int .i64 (ab : Int)) ∧ Below W.heap.size W w' := fun W => by
    have h1 := scaled_any 0 (Nat.zero_le _) ((⟨Wd.toArray⟩ : ByteArray) ++ ((⟨F.toArray⟩ : ByteArray) ++ (⟨#[48, 48, 48, 48, 48, 48]⟩ : ByteArray)).extract 0 6) (by
      rw [← len_list', scaled_arg, List.length_append, fillP_len]; omega) (by
      rw [scaled_arg]
      intro c hc
      rcases List.mem_append.1 hc with h | h
      · exact hwd c h
      · exact fillP_dig 6 F hfd c h) W
    rw [scaled_arg, HAB.out] at h1
    exact h1
  have HSC := Lib.hid hsc
  have hwl : ({ data := Wd.toArray } : ByteArray).size = Wd.length := by show Wd.toArray.size = _; simp
  unfold maxNum at hab
  clear hsc hwd hfd HAB
  by_cases hdot : ∃ r, B = 46 :: r
  · obtain ⟨r, rfl⟩ := hdot
    have hF := hF2 r rfl
    rw [show Lib.hasPrefix (46 :: r) [46] = true by simp [Lib.hasPrefix, List.isPrefixOf], show Lib.trimPrefix (46 :: r) [46] = r by simp [Lib.trimPrefix, Lib.hasPrefix, List.isPrefixOf]] at HCP
    have HDG2 := Lib.hid (fun W => digitsOf_any ⟨r.toArray⟩ (by show r.toArray.size ≤ _; simp at hBl1 ⊢; omega) W)
    rw [show (⟨r.toArray⟩ : ByteArray).data.toList = r from rfl, ← hF] at HDG2
    have hx3 : (⟨r.toArray⟩ : ByteArray).extract 0 F.length = ⟨F.toArray⟩ := ByteArray.ext (by
      rw [ByteArray.data_extract]
      apply Array.toList_inj.1
      rw [Array.toList_extract, List.extract_eq_take_drop, hF]
      show ((r.drop 0).take ((r.takeWhile isDig).length - 0)) = _
      rw [List.drop_zero, Nat.sub_zero]
      exact List.prefix_iff_eq_take.1 (List.takeWhile_prefix isDig) |>.symm)
    have hfl : F.length ≤ r.length := by rw [hF]; exact (List.takeWhile_sublist isDig (l := r)).length_le
    rw [List.length_cons] at hBl1
    clear hF hF1 hF2
    go_enter Tryz.func173, Tryz.ntmps173
    go_wp2_with fail
    refine (HT.out _).mono ?_; rintro e1 w1 ⟨rfl, hb1⟩
    go_wp2_with fail
    refine (HCT.out _).mono ?_; rintro e2 w2 ⟨rfl, rfl⟩
    go_wp2_with fail
    refine (HDG.out _).mono ?_; rintro e3 w3 ⟨rfl, hb3⟩
    go_wp2_with fail
    refine (HCP.out _).mono ?_; rintro e4 w4 ⟨rfl, rfl⟩
    go_wp2_with fail
    refine (HDG2.out _).mono ?_; rintro e5 w5 ⟨rfl, hb5⟩
    go_wp2_with fail
    refine (HSC.out _).mono ?_; rintro e6 w6 ⟨rfl, hb6⟩
    have HBX := Lib.hid (hb1.trans ((hb3.mono hb1.size).trans ((hb5.mono (Nat.le_trans hb1.size hb3.size)).trans (hb6.mono (Nat.le_trans hb1.size (Nat.le_trans hb3.size hb5.size))))))
    cases neg
    · go_wp2_with fail
      go_ret
      exact ⟨by rw [HZ.out]; rfl, HBX.out⟩
    · go_wp2_with fail
      go_ret
      exact ⟨by rw [HZ.out]; rfl, HBX.out⟩
  · have hF := hF1 (fun r e => hdot ⟨r, e⟩)
    have hpf : Lib.hasPrefix B [46] = false := by
      unfold Lib.hasPrefix
      cases B with
      | nil => rfl
      | cons b r =>
        rw [List.isPrefixOf]
        have : (46 == b) = false := by rw [beq_eq_false_iff_ne]; exact fun e => hdot ⟨r, by rw [e]⟩
        rw [this]; rfl
    rw [hpf, show Lib.trimPrefix B [46] = B by unfold Lib.trimPrefix; rw [hpf]; rfl] at HCP
    subst hF
    clear hF1 hF2 hdot hpf
    go_enter Tryz.func173, Tryz.ntmps173
    go_wp2_with fail
    refine (HT.out _).mono ?_; rintro e1 w1 ⟨rfl, hb1⟩
    go_wp2_with fail
    refine (HCT.out _).mono ?_; rintro e2 w2 ⟨rfl, rfl⟩
    go_wp2_with fail
    refine (HDG.out _).mono ?_; rintro e3 w3 ⟨rfl, hb3⟩
    go_wp2_with fail
    refine (HCP.out _).mono ?_; rintro e4 w4 ⟨rfl, rfl⟩
    go_wp2_with fail
    refine (HSC.out _).mono ?_; rintro e6 w6 ⟨rfl, hb6⟩
    have HBX := Lib.hid (hb1.trans ((hb3.mono hb1.size).trans (hb6.mono (Nat.le_trans hb1.size hb3.size))))
    cases neg
    · go_wp2_with fail
      go_ret
      exact ⟨by rw [HZ.out]; rfl, HBX.out⟩
    · go_wp2_with fail
      go_ret
      exact ⟨by rw [HZ.out]; rfl, HBX.out⟩
end Go.Proofs.YtfibjcaidnofmaaGreatDoor
