/- Names: both NameOk compute one plain function. -/
import Derived.Test.YtfibjcaidnofmaaGreatDoorProg
import Derived.Test.YtfibjcaidnofmaaGreatDoorJoinITAa
namespace Go.Proofs.YtfibjcaidnofmaaGreatDoor
open Go.RowKit

def letterB (c : Nat) : Bool := decide ((97 ≤ c ∧ c ≤ 122) ∨ (65 ≤ c ∧ c ≤ 90))
def digitB (c : Nat) : Bool := decide (48 ≤ c ∧ c ≤ 57)
/-- A byte that may stand at place j of a name. -/
def nameCh (j c : Nat) : Bool := letterB c || (decide (j = 0) && decide (c = 37)) || (decide (j ≠ 0) && digitB c)
def nameTo (s : ByteArray) (k : Nat) : Bool := (List.range k).all fun j => nameCh j (s.get! j).toNat
def nameB (s : ByteArray) : Bool := decide (1 ≤ s.size) && decide (s.size ≤ 8) && nameTo s s.size

theorem byte_at {s : ByteArray} {k : Nat} (h : k < s.size) : s.get! k = s[k] := by
  show s.data[k]! = s.data[k]
  exact getElem!_pos s.data k h

theorem nameTo_succ (s : ByteArray) (k : Nat) : nameTo s (k + 1) = (nameTo s k && nameCh k (s.get! k).toNat) := by
  unfold nameTo
  rw [List.range_succ, List.all_append]
  simp

theorem nameTo_false {s : ByteArray} {k n : Nat} (hk : k < n) (h : nameCh k (s.get! k).toNat = false) : nameTo s n = false := by
  unfold nameTo
  rw [List.all_eq_false]
  exact ⟨k, by simpa using hk, by simp [h]⟩

set_option maxHeartbeats 400000 in
theorem isLetter_any (c : Nat) (w : World) (hc : c ≤ 255) : Calls Tryz.prog 167 #[.int .u8 c] w fun e w' => e = .returned (.bool (letterB c)) ∧ w = w' := by
  rcases (show (97 ≤ c ∧ c ≤ 122) ∨ (65 ≤ c ∧ c ≤ 90) ∨ (122 < c) ∨ (90 < c ∧ c < 97) ∨ c < 65 from by omega) with h | h | h | h | h
  all_goals
    go_enter Tryz.func167, Tryz.ntmps167
    go_wp2
    go_ret
    refine ⟨?_, rfl⟩
    refine congrArg (fun b => Ending.returned (.bool b)) ?_
    unfold letterB
    rw [Bool.eq_iff_iff]
    simp
    try omega
theorem isLetter_t (c : Nat) (w : World) (hc : c ≤ 255) (h : letterB c = true) : Calls Tryz.prog 167 #[.int .u8 c] w fun e w' => e = .returned (.bool true) ∧ w = w' := h ▸ isLetter_any c w hc
theorem isLetter_f (c : Nat) (w : World) (hc : c ≤ 255) (h : letterB c = false) : Calls Tryz.prog 167 #[.int .u8 c] w fun e w' => e = .returned (.bool false) ∧ w = w' := h ▸ isLetter_any c w hc

set_option maxHeartbeats 400000 in
theorem isDigit_any (c : Nat) (w : World) (hc : c ≤ 255) : Calls Tryz.prog 168 #[.int .u8 c] w fun e w' => e = .returned (.bool (digitB c)) ∧ w = w' := by
  rcases (show (48 ≤ c ∧ c ≤ 57) ∨ 57 < c ∨ c < 48 from by omega) with h | h | h
  all_goals
    go_enter Tryz.func168, Tryz.ntmps168
    go_wp2
    go_ret
    refine ⟨?_, rfl⟩
    refine congrArg (fun b => Ending.returned (.bool b)) ?_
    unfold digitB
    rw [Bool.eq_iff_iff]
    simp
    try omega
theorem isDigit_t (c : Nat) (w : World) (hc : c ≤ 255) (h : digitB c = true) : Calls Tryz.prog 168 #[.int .u8 c] w fun e w' => e = .returned (.bool true) ∧ w = w' := h ▸ isDigit_any c w hc
theorem isDigit_f (c : Nat) (w : World) (hc : c ≤ 255) (h : digitB c = false) : Calls Tryz.prog 168 #[.int .u8 c] w fun e w' => e = .returned (.bool false) ∧ w = w' := h ▸ isDigit_any c w hc

set_option maxHeartbeats 400000 in
theorem l02Letter_any (c : Nat) (w : World) (hc : c ≤ 255) : Calls Tryz.prog 210 #[.int .u8 c] w fun e w' => e = .returned (.bool (letterB c)) ∧ w = w' := by
  rcases (show (97 ≤ c ∧ c ≤ 122) ∨ (65 ≤ c ∧ c ≤ 90) ∨ (122 < c) ∨ (90 < c ∧ c < 97) ∨ c < 65 from by omega) with h | h | h | h | h
  all_goals
    go_enter Tryz.func210, Tryz.ntmps210
    go_wp2
    go_ret
    refine ⟨?_, rfl⟩
    refine congrArg (fun b => Ending.returned (.bool b)) ?_
    unfold letterB
    rw [Bool.eq_iff_iff]
    simp
    try omega
theorem l02Letter_t (c : Nat) (w : World) (hc : c ≤ 255) (h : letterB c = true) : Calls Tryz.prog 210 #[.int .u8 c] w fun e w' => e = .returned (.bool true) ∧ w = w' := h ▸ l02Letter_any c w hc
theorem l02Letter_f (c : Nat) (w : World) (hc : c ≤ 255) (h : letterB c = false) : Calls Tryz.prog 210 #[.int .u8 c] w fun e w' => e = .returned (.bool false) ∧ w = w' := h ▸ l02Letter_any c w hc

set_option maxHeartbeats 400000 in
theorem l01Digit_any (c : Nat) (w : World) (hc : c ≤ 255) : Calls Tryz.prog 211 #[.int .u8 c] w fun e w' => e = .returned (.bool (digitB c)) ∧ w = w' := by
  rcases (show (48 ≤ c ∧ c ≤ 57) ∨ 57 < c ∨ c < 48 from by omega) with h | h | h
  all_goals
    go_enter Tryz.func211, Tryz.ntmps211
    go_wp2
    go_ret
    refine ⟨?_, rfl⟩
    refine congrArg (fun b => Ending.returned (.bool b)) ?_
    unfold digitB
    rw [Bool.eq_iff_iff]
    simp
    try omega
theorem l01Digit_t (c : Nat) (w : World) (hc : c ≤ 255) (h : digitB c = true) : Calls Tryz.prog 211 #[.int .u8 c] w fun e w' => e = .returned (.bool true) ∧ w = w' := h ▸ l01Digit_any c w hc
theorem l01Digit_f (c : Nat) (w : World) (hc : c ≤ 255) (h : digitB c = false) : Calls Tryz.prog 211 #[.int .u8 c] w fun e w' => e = .returned (.bool false) ∧ w = w' := h ▸ l01Digit_any c w hc

theorem byte_le (c : UInt8) : c.toNat ≤ 255 := by have := c.toNat_lt; omega

set_option maxHeartbeats 4000000 in
theorem implNameOk_any (s : ByteArray) (w : World) (hs : s.size ≤ 9223372036854775807) :
    Calls Tryz.prog 120 #[.string s] w fun e w' => e = .returned (.bool (nameB s)) ∧ w = w' := by
  go_enter Tryz.func120, Tryz.ntmps120
  go_wp2
  go_loop [3] (fun i => ∃ k : Nat, k ≤ s.size ∧ i = .int .i64 k ∧ nameTo s k = true) (fun i => s.size - (intOf i).toNat)
  case atStart => exact ⟨0, Nat.zero_le _, rfl, rfl⟩
  case round =>
    obtain ⟨k, hk, rfl, ht⟩ := hrel
    have HT := Lib.hid ht; clear ht
    by_cases hlt : k < s.size
    · have hb := byte_at hlt
      have HB := Lib.hid hb; clear hb
      have hok : nameCh k s[k].toNat = true → nameTo s (k + 1) = true := fun h => by rw [nameTo_succ, HT.out, HB.out, h]; rfl
      have hno : nameCh k s[k].toNat = false → nameB s = false := fun h => by unfold nameB; rw [nameTo_false hlt (by rw [HB.out]; exact h), Bool.and_false]
      have HOK := Lib.hid hok; have HNO := Lib.hid hno; clear hok hno
      have h255 := byte_le s[k]
      cases hL : letterB s[k].toNat
      · have HL := Lib.hid hL; clear hL
        by_cases h0 : k = 0
        · subst h0
          by_cases h37 : s[0].toNat = 37
          · have h37b : ((s[0].toNat : Int) == 37) = true := by rw [beq_iff_eq]; omega
            have hch : nameCh 0 s[0].toNat = true := by simp [nameCh, h37]
            have HC := Lib.hid hch; have H37 := Lib.hid h37; clear h37 hch
            go_wp2_with (go_at_call 167; refine (isLetter_f _ _ h255 HL.out).mono ?_; rintro e w' ⟨rfl, rfl⟩)
            go_round
            case rel => exact ⟨0 + 1, by omega, by go_num, HOK.out HC.out⟩
            case measure => simp [intOf]; omega
          · have h37b : ((s[0].toNat : Int) == 37) = false := by rw [beq_eq_false_iff_ne]; omega
            have hch : nameCh 0 s[0].toNat = false := by simp [nameCh, h37, HL.out]
            have HC := Lib.hid hch; clear hch
            go_wp2_with (go_at_call 167; refine (isLetter_f _ _ h255 HL.out).mono ?_; rintro e w' ⟨rfl, rfl⟩)
            go_ret
            exact ⟨by rw [HNO.out HC.out]; rfl, rfl⟩
        · have hk0 : ((k : Int) == 0) = false := by rw [beq_eq_false_iff_ne]; omega
          cases hD : digitB s[k].toNat
          · have hch : nameCh k s[k].toNat = false := by simp [nameCh, HL.out, hD, h0]
            have HC := Lib.hid hch; have HD := Lib.hid hD; clear hch hD
            go_wp2_with (first | (go_at_call 167; refine (isLetter_f _ _ h255 HL.out).mono ?_; rintro e w' ⟨rfl, rfl⟩) | (go_at_call 168; refine (isDigit_f _ _ h255 HD.out).mono ?_; rintro e w' ⟨rfl, rfl⟩))
            go_ret
            exact ⟨by rw [HNO.out HC.out]; rfl, rfl⟩
          · have hch : nameCh k s[k].toNat = true := by simp [nameCh, HL.out, hD, h0]
            have HC := Lib.hid hch; have HD := Lib.hid hD; clear hch hD
            go_wp2_with (first | (go_at_call 167; refine (isLetter_f _ _ h255 HL.out).mono ?_; rintro e w' ⟨rfl, rfl⟩) | (go_at_call 168; refine (isDigit_t _ _ h255 HD.out).mono ?_; rintro e w' ⟨rfl, rfl⟩))
            go_round
            case rel => exact ⟨k + 1, by omega, by go_num, HOK.out HC.out⟩
            case measure => simp [intOf]; omega
      · have hch : nameCh k s[k].toNat = true := by simp [nameCh, hL]
        have HC := Lib.hid hch; have HL := Lib.hid hL; clear hch hL
        go_wp2_with (go_at_call 167; refine (isLetter_t _ _ h255 HL.out).mono ?_; rintro e w' ⟨rfl, rfl⟩)
        go_round
        case rel => exact ⟨k + 1, by omega, by go_num, HOK.out HC.out⟩
        case measure => simp [intOf]; omega
    · obtain rfl : k = s.size := by omega
      by_cases h1 : 1 ≤ s.size
      · by_cases h8 : s.size ≤ 8
        all_goals
          go_wp2
          go_ret
          refine ⟨?_, rfl⟩
          refine congrArg (fun b => Ending.returned (.bool b)) ?_
          unfold nameB
          rw [HT.out, Bool.eq_iff_iff]
          simp
          omega
      · go_wp2
        go_ret
        refine ⟨?_, rfl⟩
        unfold nameB
        simp [h1]

theorem nameTo_one (s : ByteArray) : nameTo s 1 = nameCh 0 (s.get! 0).toNat := by simp [nameTo, List.range_succ]

set_option maxHeartbeats 4000000 in
theorem l02Name_any (s : ByteArray) (w : World) (hs : s.size ≤ 9223372036854775807) :
    Calls Tryz.prog 178 #[.string s] w fun e w' => e = .returned (.bool (nameB s)) ∧ w = w' := by
  by_cases h1 : s.size < 1
  · have hB : nameB s = false := by unfold nameB; simp; omega
    rw [hB]; clear hB
    go_enter Tryz.func178, Tryz.ntmps178
    go_wp2
    go_ret
    exact ⟨rfl, rfl⟩
  by_cases h8 : 8 < s.size
  · have hB : nameB s = false := by unfold nameB; simp; omega
    rw [hB]; clear hB
    go_enter Tryz.func178, Tryz.ntmps178
    go_wp2
    go_ret
    exact ⟨rfl, rfl⟩
  have hp : 0 < s.size := by omega
  have h255 := byte_le s[0]
  have HB0 := Lib.hid (byte_at hp)
  have hno : nameCh 0 s[0].toNat = false → nameB s = false := fun h => by unfold nameB; rw [nameTo_false hp (by rw [HB0.out]; exact h), Bool.and_false]
  have HNO := Lib.hid hno; clear hno
  have d1 : decide ((s.size : Int) < 1) = false := by simp; omega
  have d8 : decide (8 < (s.size : Int)) = false := by simp; omega
  by_cases hfirst : nameCh 0 s[0].toNat = true
  · have ht1 : nameTo s 1 = true := by rw [nameTo_one, HB0.out]; exact hfirst
    have HT1 := Lib.hid ht1; clear ht1
    have hcase : (letterB s[0].toNat = true ∧ True) ∨ (letterB s[0].toNat = false ∧ ((s[0].toNat : Int) != 37) = false) := by
      cases hL : letterB s[0].toNat
      · have h37 : s[0].toNat = 37 := by simpa [nameCh, hL] using hfirst
        exact .inr ⟨rfl, by rw [h37]; rfl⟩
      · exact .inl ⟨rfl, trivial⟩
    clear hfirst HNO
    rcases hcase with ⟨hL, hp37⟩ | ⟨hL, hp37⟩
    all_goals
      have HL := Lib.hid hL; clear hL
      go_enter Tryz.func178, Tryz.ntmps178
      go_wp2_with (go_at_call 210; first | (refine (l02Letter_f _ _ h255 HL.out).mono ?_; rintro e w' ⟨rfl, rfl⟩) | (refine (l02Letter_t _ _ h255 HL.out).mono ?_; rintro e w' ⟨rfl, rfl⟩))
      go_loop [3] (fun i => ∃ k : Nat, 1 ≤ k ∧ k ≤ s.size ∧ i = .int .i64 k ∧ nameTo s k = true) (fun i => s.size - (intOf i).toNat)
      case atStart => exact ⟨1, by omega, by omega, rfl, HT1.out⟩
      case round =>
        obtain ⟨k, h1k, hk, rfl, ht⟩ := hrel
        have HT := Lib.hid ht; clear ht
        by_cases hlt : k < s.size
        · have HB := Lib.hid (byte_at hlt)
          have h255' := byte_le s[k]
          have hok : nameCh k s[k].toNat = true → nameTo s (k + 1) = true := fun h => by rw [nameTo_succ, HT.out, HB.out, h]; rfl
          have hno : nameCh k s[k].toNat = false → nameB s = false := fun h => by unfold nameB; rw [nameTo_false hlt (by rw [HB.out]; exact h), Bool.and_false]
          have HOK := Lib.hid hok; have HNO := Lib.hid hno; clear hok hno
          have hk0 : k ≠ 0 := by omega
          cases hL : letterB s[k].toNat
          · cases hD : digitB s[k].toNat
            · have HC := Lib.hid (show nameCh k s[k].toNat = false by simp [nameCh, hL, hD, hk0])
              have HL2 := Lib.hid hL; have HD := Lib.hid hD; clear hL hD
              go_wp2_with (first | (go_at_call 210; refine (l02Letter_f _ _ h255' HL2.out).mono ?_; rintro e w' ⟨rfl, rfl⟩) | (go_at_call 211; refine (l01Digit_f _ _ h255' HD.out).mono ?_; rintro e w' ⟨rfl, rfl⟩))
              go_ret
              exact ⟨by rw [HNO.out HC.out]; rfl, rfl⟩
            · have HC := Lib.hid (show nameCh k s[k].toNat = true by simp [nameCh, hL, hD, hk0])
              have HL2 := Lib.hid hL; have HD := Lib.hid hD; clear hL hD
              go_wp2_with (first | (go_at_call 210; refine (l02Letter_f _ _ h255' HL2.out).mono ?_; rintro e w' ⟨rfl, rfl⟩) | (go_at_call 211; refine (l01Digit_t _ _ h255' HD.out).mono ?_; rintro e w' ⟨rfl, rfl⟩))
              go_round
              case rel => exact ⟨k + 1, by omega, by omega, by go_num, HOK.out HC.out⟩
              case measure => simp [intOf]; omega
          · have HC := Lib.hid (show nameCh k s[k].toNat = true by simp [nameCh, hL])
            have HL2 := Lib.hid hL; clear hL
            go_wp2_with (go_at_call 210; refine (l02Letter_t _ _ h255' HL2.out).mono ?_; rintro e w' ⟨rfl, rfl⟩)
            go_round
            case rel => exact ⟨k + 1, by omega, by omega, by go_num, HOK.out HC.out⟩
            case measure => simp [intOf]; omega
        · obtain rfl : k = s.size := by omega
          go_wp2
          go_ret
          refine ⟨?_, rfl⟩
          refine congrArg (fun b => Ending.returned (.bool b)) ?_
          unfold nameB
          rw [HT.out, Bool.eq_iff_iff]
          simp
          omega
  · have hfirst' : nameCh 0 s[0].toNat = false := by simpa using hfirst
    have HB := Lib.hid (HNO.out hfirst')
    have hl : letterB s[0].toNat = false := by
      cases hL : letterB s[0].toNat
      · rfl
      · simp [nameCh, hL] at hfirst
    have hp37 : ((s[0].toNat : Int) != 37) = true := by
      rw [bne_iff_ne]
      intro h
      have h37 : s[0].toNat = 37 := by omega
      simp [nameCh, h37] at hfirst
    have HL := Lib.hid hl; clear hl hfirst hfirst' HNO
    go_enter Tryz.func178, Tryz.ntmps178
    go_wp2_with (go_at_call 210; refine (l02Letter_f _ _ h255 HL.out).mono ?_; rintro e w' ⟨rfl, rfl⟩)
    go_ret
    exact ⟨by rw [HB.out]; rfl, rfl⟩

theorem specNameOk_any (s : ByteArray) (w : World) (hs : s.size ≤ 9223372036854775807) :
    Calls Tryz.prog 136 #[.string s] w fun e w' => e = .returned (.bool (nameB s)) ∧ w = w' := by
  go_enter Tryz.func136, Tryz.ntmps136
  go_wp2_with (go_at_call 178; refine (l02Name_any s _ hs).mono ?_; rintro e w' ⟨rfl, rfl⟩)
  go_ret
  exact ⟨rfl, rfl⟩

end Go.Proofs.YtfibjcaidnofmaaGreatDoor

