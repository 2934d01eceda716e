/- Names: both NameOk compute one plain function. -/
import Derived.Test.YtfibjcaidnofmaaGreatDoorProg
import Derived.Test.YtfibjcaidnofmaaGreatDoorJoinEXAa
import Derived.Lib.AppendStr
import Derived.Lib.ConvBytes
import Derived.Lib.ItoaNum
import Derived.IntWalk
namespace Go.Proofs.YtfibjcaidnofmaaGreatDoor
open Go.RowKit

def letterB (c : Nat) : Bool := decide ((97 ≤ c ∧ c ≤ 122) ∨ (65 ≤ c ∧ c ≤ 90))
def digitB (c : Nat) : Bool := decide (48 ≤ c ∧ c ≤ 57)
/-- A byte that may stand at place j of a name. -/
def nameCh (j c : Nat) : Bool := letterB c || (decide (j = 0) && decide (c = 37)) || (decide (j ≠ 0) && digitB c)
def nameTo (s : ByteArray) (k : Nat) : Bool := (List.range k).all fun j => nameCh j (s.get! j).toNat
def nameB (s : ByteArray) : Bool := decide (1 ≤ s.size) && decide (s.size ≤ 8) && nameTo s s.size

theorem byte_at {s : ByteArray} {k : Nat} (h : k < s.size) : s.get! k = s[k] := by
  show s.data[k]! = s.data[k]
  exact getElem!_pos s.data k h

theorem nameTo_succ (s : ByteArray) (k : Nat) : nameTo s (k + 1) = (nameTo s k && nameCh k (s.get! k).toNat) := by
  unfold nameTo
  rw [List.range_succ, List.all_append]
  simp

theorem nameTo_false {s : ByteArray} {k n : Nat} (hk : k < n) (h : nameCh k (s.get! k).toNat = false) : nameTo s n = false := by
  unfold nameTo
  rw [List.all_eq_false]
  exact ⟨k, by simpa using hk, by simp [h]⟩

set_option maxHeartbeats 400000 in
theorem isLetter_any (c : Nat) (w : World) (hc : c ≤ 255) : Calls Tryz.prog 167 #[.int .u8 c] w fun e w' => e = .returned (.bool (letterB c)) ∧ w = w' := by
  rcases (show (97 ≤ c ∧ c ≤ 122) ∨ (65 ≤ c ∧ c ≤ 90) ∨ (122 < c) ∨ (90 < c ∧ c < 97) ∨ c < 65 from by omega) with h | h | h | h | h
  all_goals
    go_enter Tryz.func167, Tryz.ntmps167
    go_wp2
    go_ret
    refine ⟨?_, rfl⟩
    refine congrArg (fun b => Ending.returned (.bool b)) ?_
    unfold letterB
    rw [Bool.eq_iff_iff]
    simp
    try omega
theorem isLetter_t (c : Nat) (w : World) (hc : c ≤ 255) (h : letterB c = true) : Calls Tryz.prog 167 #[.int .u8 c] w fun e w' => e = .returned (.bool true) ∧ w = w' := h ▸ isLetter_any c w hc
theorem isLetter_f (c : Nat) (w : World) (hc : c ≤ 255) (h : letterB c = false) : Calls Tryz.prog 167 #[.int .u8 c] w fun e w' => e = .returned (.bool false) ∧ w = w' := h ▸ isLetter_any c w hc

set_option maxHeartbeats 400000 in
theorem isDigit_any (c : Nat) (w : World) (hc : c ≤ 255) : Calls Tryz.prog 168 #[.int .u8 c] w fun e w' => e = .returned (.bool (digitB c)) ∧ w = w' := by
  rcases (show (48 ≤ c ∧ c ≤ 57) ∨ 57 < c ∨ c < 48 from by omega) with h | h | h
  all_goals
    go_enter Tryz.func168, Tryz.ntmps168
    go_wp2
    go_ret
    refine ⟨?_, rfl⟩
    refine congrArg (fun b => Ending.returned (.bool b)) ?_
    unfold digitB
    rw [Bool.eq_iff_iff]
    simp
    try omega
theorem isDigit_t (c : Nat) (w : World) (hc : c ≤ 255) (h : digitB c = true) : Calls Tryz.prog 168 #[.int .u8 c] w fun e w' => e = .returned (.bool true) ∧ w = w' := h ▸ isDigit_any c w hc
theorem isDigit_f (c : Nat) (w : World) (hc : c ≤ 255) (h : digitB c = false) : Calls Tryz.prog 168 #[.int .u8 c] w fun e w' => e = .returned (.bool false) ∧ w = w' := h ▸ isDigit_any c w hc

set_option maxHeartbeats 400000 in
theorem l02Letter_any (c : Nat) (w : World) (hc : c ≤ 255) : Calls Tryz.prog 210 #[.int .u8 c] w fun e w' => e = .returned (.bool (letterB c)) ∧ w = w' := by
  rcases (show (97 ≤ c ∧ c ≤ 122) ∨ (65 ≤ c ∧ c ≤ 90) ∨ (122 < c) ∨ (90 < c ∧ c < 97) ∨ c < 65 from by omega) with h | h | h | h | h
  all_goals
    go_enter Tryz.func210, Tryz.ntmps210
    go_wp2
    go_ret
    refine ⟨?_, rfl⟩
    refine congrArg (fun b => Ending.returned (.bool b)) ?_
    unfold letterB
    rw [Bool.eq_iff_iff]
    simp
    try omega
theorem l02Letter_t (c : Nat) (w : World) (hc : c ≤ 255) (h : letterB c = true) : Calls Tryz.prog 210 #[.int .u8 c] w fun e w' => e = .returned (.bool true) ∧ w = w' := h ▸ l02Letter_any c w hc
theorem l02Letter_f (c : Nat) (w : World) (hc : c ≤ 255) (h : letterB c = false) : Calls Tryz.prog 210 #[.int .u8 c] w fun e w' => e = .returned (.bool false) ∧ w = w' := h ▸ l02Letter_any c w hc

set_option maxHeartbeats 400000 in
theorem l01Digit_any (c : Nat) (w : World) (hc : c ≤ 255) : Calls Tryz.prog 211 #[.int .u8 c] w fun e w' => e = .returned (.bool (digitB c)) ∧ w = w' := by
  rcases (show (48 ≤ c ∧ c ≤ 57) ∨ 57 < c ∨ c < 48 from by omega) with h | h | h
  all_goals
    go_enter Tryz.func211, Tryz.ntmps211
    go_wp2
    go_ret
    refine ⟨?_, rfl⟩
    refine congrArg (fun b => Ending.returned (.bool b)) ?_
    unfold digitB
    rw [Bool.eq_iff_iff]
    simp
    try omega
theorem l01Digit_t (c : Nat) (w : World) (hc : c ≤ 255) (h : digitB c = true) : Calls Tryz.prog 211 #[.int .u8 c] w fun e w' => e = .returned (.bool true) ∧ w = w' := h ▸ l01Digit_any c w hc
theorem l01Digit_f (c : Nat) (w : World) (hc : c ≤ 255) (h : digitB c = false) : Calls Tryz.prog 211 #[.int .u8 c] w fun e w' => e = .returned (.bool false) ∧ w = w' := h ▸ l01Digit_any c w hc

theorem byte_le (c : UInt8) : c.toNat ≤ 255 := by have := c.toNat_lt; omega

set_option maxHeartbeats 4000000 in
theorem implNameOk_any (s : ByteArray) (w : World) (hs : s.size ≤ 9223372036854775807) :
    Calls Tryz.prog 120 #[.string s] w fun e w' => e = .returned (.bool (nameB s)) ∧ w = w' := by
  go_enter Tryz.func120, Tryz.ntmps120
  go_wp2
  go_loop [3] (fun i => ∃ k : Nat, k ≤ s.size ∧ i = .int .i64 k ∧ nameTo s k = true) (fun i => s.size - (intOf i).toNat)
  case atStart => exact ⟨0, Nat.zero_le _, rfl, rfl⟩
  case round =>
    obtain ⟨k, hk, rfl, ht⟩ := hrel
    have HT := Lib.hid ht; clear ht
    by_cases hlt : k < s.size
    · have hb := byte_at hlt
      have HB := Lib.hid hb; clear hb
      have hok : nameCh k s[k].toNat = true → nameTo s (k + 1) = true := fun h => by rw [nameTo_succ, HT.out, HB.out, h]; rfl
      have hno : nameCh k s[k].toNat = false → nameB s = false := fun h => by unfold nameB; rw [nameTo_false hlt (by rw [HB.out]; exact h), Bool.and_false]
      have HOK := Lib.hid hok; have HNO := Lib.hid hno; clear hok hno
      have h255 := byte_le s[k]
      cases hL : letterB s[k].toNat
      · have HL := Lib.hid hL; clear hL
        by_cases h0 : k = 0
        · subst h0
          by_cases h37 : s[0].toNat = 37
          · have h37b : ((s[0].toNat : Int) == 37) = true := by rw [beq_iff_eq]; omega
            have hch : nameCh 0 s[0].toNat = true := by simp [nameCh, h37]
            have HC := Lib.hid hch; have H37 := Lib.hid h37; clear h37 hch
            go_wp2_with (go_at_call 167; refine (isLetter_f _ _ h255 HL.out).mono ?_; rintro e w' ⟨rfl, rfl⟩)
            go_round
            case rel => exact ⟨0 + 1, by omega, by go_num, HOK.out HC.out⟩
            case measure => simp [intOf]; omega
          · have h37b : ((s[0].toNat : Int) == 37) = false := by rw [beq_eq_false_iff_ne]; omega
            have hch : nameCh 0 s[0].toNat = false := by simp [nameCh, h37, HL.out]
            have HC := Lib.hid hch; clear hch
            go_wp2_with (go_at_call 167; refine (isLetter_f _ _ h255 HL.out).mono ?_; rintro e w' ⟨rfl, rfl⟩)
            go_ret
            exact ⟨by rw [HNO.out HC.out]; rfl, rfl⟩
        · have hk0 : ((k : Int) == 0) = false := by rw [beq_eq_false_iff_ne]; omega
          cases hD : digitB s[k].toNat
          · have hch : nameCh k s[k].toNat = false := by simp [nameCh, HL.out, hD, h0]
            have HC := Lib.hid hch; have HD := Lib.hid hD; clear hch hD
            go_wp2_with (first | (go_at_call 167; refine (isLetter_f _ _ h255 HL.out).mono ?_; rintro e w' ⟨rfl, rfl⟩) | (go_at_call 168; refine (isDigit_f _ _ h255 HD.out).mono ?_; rintro e w' ⟨rfl, rfl⟩))
            go_ret
            exact ⟨by rw [HNO.out HC.out]; rfl, rfl⟩
          · have hch : nameCh k s[k].toNat = true := by simp [nameCh, HL.out, hD, h0]
            have HC := Lib.hid hch; have HD := Lib.hid hD; clear hch hD
            go_wp2_with (first | (go_at_call 167; refine (isLetter_f _ _ h255 HL.out).mono ?_; rintro e w' ⟨rfl, rfl⟩) | (go_at_call 168; refine (isDigit_t _ _ h255 HD.out).mono ?_; rintro e w' ⟨rfl, rfl⟩))
            go_round
            case rel => exact ⟨k + 1, by omega, by go_num, HOK.out HC.out⟩
            case measure => simp [intOf]; omega
      · have hch : nameCh k s[k].toNat = true := by simp [nameCh, hL]
        have HC := Lib.hid hch; have HL := Lib.hid hL; clear hch hL
        go_wp2_with (go_at_call 167; refine (isLetter_t _ _ h255 HL.out).mono ?_; rintro e w' ⟨rfl, rfl⟩)
        go_round
        case rel => exact ⟨k + 1, by omega, by go_num, HOK.out HC.out⟩
        case measure => simp [intOf]; omega
    · obtain rfl : k = s.size := by omega
      by_cases h1 : 1 ≤ s.size
      · by_cases h8 : s.size ≤ 8
        all_goals
          go_wp2
          go_ret
          refine ⟨?_, rfl⟩
          refine congrArg (fun b => Ending.returned (.bool b)) ?_
          unfold nameB
          rw [HT.out, Bool.eq_iff_iff]
          simp
          omega
      · go_wp2
        go_ret
        refine ⟨?_, rfl⟩
        unfold nameB
        simp [h1]

theorem nameTo_one (s : ByteArray) : nameTo s 1 = nameCh 0 (s.get! 0).toNat := by simp [nameTo, List.range_succ]

set_option maxHeartbeats 4000000 in
theorem l02Name_any (s : ByteArray) (w : World) (hs : s.size ≤ 9223372036854775807) :
    Calls Tryz.prog 178 #[.string s] w fun e w' => e = .returned (.bool (nameB s)) ∧ w = w' := by
  by_cases h1 : s.size < 1
  · have hB : nameB s = false := by unfold nameB; simp; omega
    rw [hB]; clear hB
    go_enter Tryz.func178, Tryz.ntmps178
    go_wp2
    go_ret
    exact ⟨rfl, rfl⟩
  by_cases h8 : 8 < s.size
  · have hB : nameB s = false := by unfold nameB; simp; omega
    rw [hB]; clear hB
    go_enter Tryz.func178, Tryz.ntmps178
    go_wp2
    go_ret
    exact ⟨rfl, rfl⟩
  have hp : 0 < s.size := by omega
  have h255 := byte_le s[0]
  have HB0 := Lib.hid (byte_at hp)
  have hno : nameCh 0 s[0].toNat = false → nameB s = false := fun h => by unfold nameB; rw [nameTo_false hp (by rw [HB0.out]; exact h), Bool.and_false]
  have HNO := Lib.hid hno; clear hno
  have d1 : decide ((s.size : Int) < 1) = false := by simp; omega
  have d8 : decide (8 < (s.size : Int)) = false := by simp; omega
  by_cases hfirst : nameCh 0 s[0].toNat = true
  · have ht1 : nameTo s 1 = true := by rw [nameTo_one, HB0.out]; exact hfirst
    have HT1 := Lib.hid ht1; clear ht1
    have hcase : (letterB s[0].toNat = true ∧ True) ∨ (letterB s[0].toNat = false ∧ ((s[0].toNat : Int) != 37) = false) := by
      cases hL : letterB s[0].toNat
      · have h37 : s[0].toNat = 37 := by simpa [nameCh, hL] using hfirst
        exact .inr ⟨rfl, by rw [h37]; rfl⟩
      · exact .inl ⟨rfl, trivial⟩
    clear hfirst HNO
    rcases hcase with ⟨hL, hp37⟩ | ⟨hL, hp37⟩
    all_goals
      have HL := Lib.hid hL; clear hL
      go_enter Tryz.func178, Tryz.ntmps178
      go_wp2_with (go_at_call 210; first | (refine (l02Letter_f _ _ h255 HL.out).mono ?_; rintro e w' ⟨rfl, rfl⟩) | (refine (l02Letter_t _ _ h255 HL.out).mono ?_; rintro e w' ⟨rfl, rfl⟩))
      go_loop [3] (fun i => ∃ k : Nat, 1 ≤ k ∧ k ≤ s.size ∧ i = .int .i64 k ∧ nameTo s k = true) (fun i => s.size - (intOf i).toNat)
      case atStart => exact ⟨1, by omega, by omega, rfl, HT1.out⟩
      case round =>
        obtain ⟨k, h1k, hk, rfl, ht⟩ := hrel
        have HT := Lib.hid ht; clear ht
        by_cases hlt : k < s.size
        · have HB := Lib.hid (byte_at hlt)
          have h255' := byte_le s[k]
          have hok : nameCh k s[k].toNat = true → nameTo s (k + 1) = true := fun h => by rw [nameTo_succ, HT.out, HB.out, h]; rfl
          have hno : nameCh k s[k].toNat = false → nameB s = false := fun h => by unfold nameB; rw [nameTo_false hlt (by rw [HB.out]; exact h), Bool.and_false]
          have HOK := Lib.hid hok; have HNO := Lib.hid hno; clear hok hno
          have hk0 : k ≠ 0 := by omega
          cases hL : letterB s[k].toNat
          · cases hD : digitB s[k].toNat
            · have HC := Lib.hid (show nameCh k s[k].toNat = false by simp [nameCh, hL, hD, hk0])
              have HL2 := Lib.hid hL; have HD := Lib.hid hD; clear hL hD
              go_wp2_with (first | (go_at_call 210; refine (l02Letter_f _ _ h255' HL2.out).mono ?_; rintro e w' ⟨rfl, rfl⟩) | (go_at_call 211; refine (l01Digit_f _ _ h255' HD.out).mono ?_; rintro e w' ⟨rfl, rfl⟩))
              go_ret
              exact ⟨by rw [HNO.out HC.out]; rfl, rfl⟩
            · have HC := Lib.hid (show nameCh k s[k].toNat = true by simp [nameCh, hL, hD, hk0])
              have HL2 := Lib.hid hL; have HD := Lib.hid hD; clear hL hD
              go_wp2_with (first | (go_at_call 210; refine (l02Letter_f _ _ h255' HL2.out).mono ?_; rintro e w' ⟨rfl, rfl⟩) | (go_at_call 211; refine (l01Digit_t _ _ h255' HD.out).mono ?_; rintro e w' ⟨rfl, rfl⟩))
              go_round
              case rel => exact ⟨k + 1, by omega, by omega, by go_num, HOK.out HC.out⟩
              case measure => simp [intOf]; omega
          · have HC := Lib.hid (show nameCh k s[k].toNat = true by simp [nameCh, hL])
            have HL2 := Lib.hid hL; clear hL
            go_wp2_with (go_at_call 210; refine (l02Letter_t _ _ h255' HL2.out).mono ?_; rintro e w' ⟨rfl, rfl⟩)
            go_round
            case rel => exact ⟨k + 1, by omega, by omega, by go_num, HOK.out HC.out⟩
            case measure => simp [intOf]; omega
        · obtain rfl : k = s.size := by omega
          go_wp2
          go_ret
          refine ⟨?_, rfl⟩
          refine congrArg (fun b => Ending.returned (.bool b)) ?_
          unfold nameB
          rw [HT.out, Bool.eq_iff_iff]
          simp
          omega
  · have hfirst' : nameCh 0 s[0].toNat = false := by simpa using hfirst
    have HB := Lib.hid (HNO.out hfirst')
    have hl : letterB s[0].toNat = false := by
      cases hL : letterB s[0].toNat
      · rfl
      · simp [nameCh, hL] at hfirst
    have hp37 : ((s[0].toNat : Int) != 37) = true := by
      rw [bne_iff_ne]
      intro h
      have h37 : s[0].toNat = 37 := by omega
      simp [nameCh, h37] at hfirst
    have HL := Lib.hid hl; clear hl hfirst hfirst' HNO
    go_enter Tryz.func178, Tryz.ntmps178
    go_wp2_with (go_at_call 210; refine (l02Letter_f _ _ h255 HL.out).mono ?_; rintro e w' ⟨rfl, rfl⟩)
    go_ret
    exact ⟨by rw [HB.out]; rfl, rfl⟩

theorem specNameOk_any (s : ByteArray) (w : World) (hs : s.size ≤ 9223372036854775807) :
    Calls Tryz.prog 136 #[.string s] w fun e w' => e = .returned (.bool (nameB s)) ∧ w = w' := by
  go_enter Tryz.func136, Tryz.ntmps136
  go_wp2_with (go_at_call 178; refine (l02Name_any s _ hs).mono ?_; rintro e w' ⟨rfl, rfl⟩)
  go_ret
  exact ⟨rfl, rfl⟩

end Go.Proofs.YtfibjcaidnofmaaGreatDoor

/- Rows of bytes of the call's own: one byte more, a text more, their text; decimal digits of the reference. -/
namespace Go.Proofs.YtfibjcaidnofmaaGreatDoor
open Go.RowKit

theorem infoByte : (Tryz.prog.info? 5).map (fun i => (i.zero, i.size, i.bytes)) = some (some (.int .u8 0), 1, 1) := by kernel_rfl

abbrev encB : UInt8 → Value := fun c => .int .u8 (c.toNat : Int)

theorem convert_own {w : World} {base : Nat} {v : Value} {xs : List UInt8} (h : OwnR encB w base 5 v xs) :
    (convert 22 9 v).run Tryz.prog w = .ok (.string ⟨xs.toArray⟩) w := by
  obtain ⟨⟨A, c, rfl⟩, ho⟩ := h
  by_cases h0 : 0 < xs.length
  · obtain ⟨b, off, rfl, _, _, hc⟩ := (RowR.of_own (enc := encB) (d := 0) ho).2 h0
    have := run_convert_bytes_arg (P := Tryz.prog) w 22 5 Tryz.underlying22 Tryz.underlying5 b off xs.length c (xs.map fun c => (c.toNat : Int)) (by simp) (fun i hi => by
      rw [hc i hi]
      simp [List.getD_eq_getElem?_getD, List.getElem?_eq_getElem hi]) 9 Tryz.underlying9
    have e : strOfNums (xs.map fun c => (c.toNat : Int)) = ⟨xs.toArray⟩ := by
      unfold strOfNums
      rw [List.map_map]
      have : ((fun n : Int => UInt8.ofNat n.toNat) ∘ fun c : UInt8 => (c.toNat : Int)) = id := by
        funext c
        simp
      rw [this, List.map_id]
    rw [this, e]
  · have hx : xs = [] := List.eq_nil_of_length_eq_zero (by omega)
    subst hx
    cases A with
    | none => exact run_convert_bytes_nil (P := Tryz.prog) w 22 5 Tryz.underlying22 Tryz.underlying5 _ _ 9 Tryz.underlying9
    | some a =>
      rw [run_convert_bytes_string w 22 9 5 _ _ _ Tryz.underlying22 Tryz.underlying5 Tryz.underlying9, run_bytesToString w a _ _ [] (by simp [loadCells, loadCellsFrom])]
      rfl

/-- []byte(s): a row of bytes in a new block. -/
theorem rowBytes (w : World) (s : ByteArray) : ∃ cap w', (convert 9 22 (.string s)).run Tryz.prog w = .ok (.slice (some ⟨w.heap.size, 0, none⟩) s.size cap) w' ∧
    (∀ j (hj : j < s.size), w'.cell? ⟨w.heap.size, j, none⟩ = some (.int .u8 (s[j].toNat : Int))) ∧ Below w.heap.size w w' ∧ w'.heap.size = w.heap.size + 1 := by
  refine ⟨_, _, Lib.run_convert_string_bytes w _ _ 5 s Tryz.underlying9 Tryz.underlying22 Tryz.underlying5, fun j hj => ?_, ?_, Lib.bytesWorld_size _ _ _⟩
  · rw [Lib.bytesWorld_cell w 5 s j hj]
    have : s.data.toList.getD j 0 = s[j] := by
      have h : j < s.data.toList.length := by simpa using hj
      rw [List.getD_eq_getElem?_getD, List.getElem?_eq_getElem h]
      rfl
    rw [this]
  · exact ⟨rfl, rfl, rfl, by rw [Lib.bytesWorld_size]; omega, fun k hk => Lib.bytesWorld_at_old w _ s k hk⟩

theorem strCells_enc (s : ByteArray) : Lib.strCells s = s.data.toList.map encB := rfl

/-- append(b, t...): a text more at a row of bytes of the call's own. -/
theorem wpList_appS {ops : Array Oper} {rest : List Oper} {o : Oper} {a : Go.Act} {Q : Exit → Go.Act → World → Prop} (hgd : o.guard = none) (s x : Operand)
    (ho : o.op = .call { callee := .builtin .append, args := #[s, x], argTypes := #[22, 9] })
    (w : World) (base : Nat) (v : Value) (xs : List UInt8) (t : ByteArray) (hs : a.eval s = v) (hown : OwnR encB w base 5 v xs)
    (hx : a.eval x = .string t) (hlen : xs.length ≤ 1000000000) (hlt : t.size ≤ 1000000000) (hbase : base ≤ w.heap.size)
    (h : ∀ v' w', OwnR encB w' base 5 v' (xs ++ t.data.toList) → Below base w w' → wpList Tryz.prog ops Q rest (a.put o.dst v') w') : wpList Tryz.prog ops Q (o :: rest) a w := by
  obtain ⟨i0, hi0, hz0, hz1, hz2⟩ := info_parts infoByte
  refine Lib.wpList_append_own_string w hgd s x 22 9 ho base 5 i0 Tryz.underlying22 Tryz.underlying9 hi0 hz0 hz1 hz2 v xs.length (xs.map encB) hs hown.2 t hx (by unfold maxLen; omega) (by omega) hbase ?_
  intro v' w' h1 h2 h3
  have hB : Below base w w' := (Below.refl base w).grown h2 hbase (fun k hk => (hown.2.lt k hk).1)
  refine h v' w' ⟨?_, ?_⟩ hB
  · rcases h1.2 with ⟨e1, e2⟩ | ⟨g, cap, cur, e1, _⟩
    · refine ⟨none, 0, ?_⟩
      have := Array.length_toList (xs := t.data)
      have h4 : t.size = t.data.size := rfl
      have h5 : xs.length + t.data.toList.length = 0 := by omega
      rw [e1, List.length_append, h5]
    · refine ⟨some ⟨g, 0, none⟩, cap, ?_⟩
      rw [e1, List.length_append, Array.length_toList]
      rfl
  · rw [List.length_append, List.map_append, Array.length_toList, ← strCells_enc]
    exact h1

def decT (c : Nat) : ByteArray := ⟨(Lib.decDigits c).toArray⟩
theorem decT_small {c : Nat} (h : c < 10) : decT c = ⟨#[UInt8.ofNat (48 + c)]⟩ := by
  unfold decT; rw [Lib.decDigits, dif_pos h]
theorem decT_big {c : Nat} (h : ¬ c < 10) : decT c = decT (c / 10) ++ (⟨#[UInt8.ofNat (48 + c % 10)]⟩ : ByteArray) := by
  unfold decT; rw [Lib.decDigits, dif_neg h]
  apply ByteArray.ext
  simp [ByteArray.data_append]
theorem decT_size : ∀ (k c : Nat), c < 10 ^ (k + 1) → (decT c).size ≤ k + 1
  | 0, c, h => by rw [decT_small (by simpa using h)]; show (1 : Nat) ≤ _; omega
  | k + 1, c, h => by
    by_cases hc : c < 10
    · rw [decT_small hc]; show (1 : Nat) ≤ _; omega
    · rw [decT_big hc, ByteArray.size_append]
      have := decT_size k (c / 10) (by rw [Nat.pow_succ] at h; omega)
      show _ + 1 ≤ _; omega

set_option maxHeartbeats 4000000 in
set_option maxRecDepth 100000 in
theorem l21Below_step (c : Nat) (hc : c ≤ 9223372036854775807) (n : Int) (hn : n = -(c : Int)) (w : World) (ih : 10 ≤ c → ∀ W, Calls Tryz.prog 94 #[.int .i64 (-((c / 10 : Nat) : Int))] W fun e w' => e = .returned (.string (decT (c / 10))) ∧ Below W.heap.size W w') :
    Calls Tryz.prog 94 #[.int .i64 n] w fun e w' => e = .returned (.string (decT c)) ∧ Below w.heap.size w w' := by
  have hrem : n.tmod 10 = -((c % 10 : Nat) : Int) := by subst hn; rw [Int.neg_tmod]; rfl
  have hquo : n.tdiv 10 = -((c / 10 : Nat) : Int) := by subst hn; rw [Int.neg_tdiv]; rfl
  have HIH := Lib.hid ih; clear ih
  have HC := Lib.hid hn; have HCC := Lib.hid hc
  have hn1 : -9223372036854775807 ≤ n := by omega
  have hn2 : n ≤ 0 := by omega
  clear hn hc
  generalize hr : c % 10 = r at *
  have hr10 : r ≤ 9 := by omega
  have HRC := Lib.hid hr
  generalize hq : c / 10 = q at *
  have HQ := Lib.hid hq
  have hq99 : q ≤ 922337203685477580 := by have := HCC.out; omega
  clear hr hq
  have hcv := run_one_byte (P := Tryz.prog) 22 9 5 Tryz.underlying22 Tryz.underlying5 Tryz.underlying9 w (48 + (r : Int)) 1
  rw [show ((48 : Int) + (r : Int)).toNat = 48 + r by omega] at hcv
  have hba := (Below.refl w.heap.size w).alloc (Nat.le_refl _) (.cells #[.int .u8 (48 + (r : Int))] 5)
  have HBA := Lib.hid hba
  by_cases h10 : c < 10
  · have HR := Lib.hid (show decT c = ⟨#[UInt8.ofNat (48 + r)]⟩ by rw [decT_small h10]; have := HRC.out; rw [show r = c by omega])
    have hg : (-10 : Int) < n := by have := HC.out; omega
    clear hba h10
    go_enter Tryz.func94, Tryz.ntmps94
    go_wp2_with fail
    go_ret
    exact ⟨by rw [HR.out]; simp, HBA.out⟩
  · have HR := Lib.hid (show decT c = decT q ++ (⟨#[UInt8.ofNat (48 + r)]⟩ : ByteArray) by rw [decT_big h10, HRC.out, HQ.out])
    have hg : ¬ (-10 : Int) < n := by have := HC.out; omega
    have HI := Lib.hid (HIH.out (by omega) (w.alloc (.cells #[.int .u8 (48 + (r : Int))] 5)))
    have hsz : (decT q).size ≤ 18 := decT_size 17 q (by omega)
    have hs1 : (decT q ++ (⟨#[UInt8.ofNat (48 + r)]⟩ : ByteArray)).size = (decT q).size + 1 := by rw [ByteArray.size_append]; rfl
    clear hba h10 HIH
    go_enter Tryz.func94, Tryz.ntmps94
    go_wp2_with fail
    refine HI.out.mono ?_
    rintro e1 w1 ⟨rfl, hb1⟩
    have HB := Lib.hid (HBA.out.trans (hb1.mono (by simp)))
    clear hb1
    go_wp2_with fail
    go_ret
    exact ⟨by rw [HR.out]; simp, HB.out⟩

theorem l21Below_any : ∀ (c : Nat), c ≤ 9223372036854775807 → ∀ (w : World), Calls Tryz.prog 94 #[.int .i64 (-(c : Int))] w fun e w' => e = .returned (.string (decT c)) ∧ Below w.heap.size w w' := by
  intro c
  induction c using Nat.strongRecOn with
  | _ c ih =>
    intro hc w
    exact l21Below_step c hc _ rfl w (fun h W => ih (c / 10) (by omega) (by omega) W)

set_option maxHeartbeats 4000000 in
theorem l21Dec_any (c : Nat) (hc : c ≤ 9223372036854775807) (w : World) : Calls Tryz.prog 37 #[.int .i64 (c : Int)] w fun e w' => e = .returned (.string (decT c)) ∧ Below w.heap.size w w' := by
  have HI := Lib.hid (l21Below_any c hc w)
  have h0 : ¬ ((c : Int) < 0) := by omega
  go_enter Tryz.func37, Tryz.ntmps37
  go_wp2_with fail
  refine HI.out.mono ?_
  rintro e1 w1 ⟨rfl, hb1⟩
  have HB := Lib.hid hb1; clear hb1
  go_wp2_with fail
  go_ret
  exact ⟨rfl, HB.out⟩
end Go.Proofs.YtfibjcaidnofmaaGreatDoor

/- Rows of bytes made of a text: a text more, and their text. The mark of such a row lies behind its last place, so its places are free. -/
namespace Go.Proofs.YtfibjcaidnofmaaGreatDoor
open Go.RowKit

/-- Places behind which the mark lies, or a row without one: what is stored there is stored. -/
theorem store_free (P : Program) (t : TypeId) (fz : Nat × Nat) : ∀ (vs : List Value) (g o i : Nat) (cur : Array Value) (w : World), (∀ v ∈ vs, v.oneCell' = true) → w.heap[g]? = some (.cells cur t fz) → (cur.size ≤ fz.1 ∨ fz.2 = 0) → o + i + vs.length ≤ cur.size →
    (storeCells ⟨g, o, none⟩ vs i).run P w = .ok () (w.setRow g (cur.toList.take (o + i) ++ vs ++ cur.toList.drop (o + i + vs.length)).toArray) := by
  intro vs
  induction vs with
  | nil =>
    intro g o i cur w _ hg _ _
    have e : (cur.toList.take (o + i) ++ [] ++ cur.toList.drop (o + i + ([] : List Value).length)).toArray = cur := by
      rw [List.append_nil, List.length_nil, Nat.add_zero, List.take_append_drop, Array.toArray_toList]
    rw [e, setRow_self w g cur t fz hg]
    rfl
  | cons v vs ih =>
    intro g o i cur w hone hg hfz hlen
    rw [List.length_cons] at hlen
    have hlt : o + i < cur.size := by omega
    have ha : (⟨g, o, none⟩ : Addr).add i = ⟨g, o + i, none⟩ := by unfold Addr.add; split <;> simp_all
    have hc : w.cell? ⟨g, o + i, none⟩ = some cur[o + i] := by unfold World.cell?; rw [hg]; simp [hlt]
    have hf : w.frozen? ⟨g, o + i, none⟩ = false := by
      unfold World.frozen?
      rw [hg]
      obtain ⟨p, q⟩ := fz
      rcases hfz with h | h
      · have h : cur.size ≤ p := h
        have : ¬ p ≤ o + i := by omega
        simp [this]
      · have h : q = 0 := h
        subst h; simp
    have h1 : (store ((⟨g, o, none⟩ : Addr).add i) v).run P w = .ok () (w.setRow g (cur.setIfInBounds (o + i) v)) := by
      rw [ha, run_store P w _ v _ (hone v (List.mem_cons_self ..)), hc]
      dsimp only
      rw [hf, if_neg (by decide), setCell_eq_setRow w g (o + i) cur t fz v hg]
    have h2 := ih g o (i + 1) (cur.setIfInBounds (o + i) v) (w.setRow g (cur.setIfInBounds (o + i) v)) (fun x hx => hone x (List.mem_cons_of_mem _ hx)) (setRow_heap w g cur _ t fz hg) (by rw [Array.size_setIfInBounds]; exact hfz) (by rw [Array.size_setIfInBounds]; omega)
    have h3 := list_seg_step cur.toList (o + i) v vs (by rw [Array.length_toList]; omega)
    show ((do store ((⟨g, o, none⟩ : Addr).add i) v; storeCells ⟨g, o, none⟩ vs (i + 1)) : Sem Unit).run P w = _
    rw [Sem.run_bind, h1, Result.andThen_ok, h2, setRow_setRow]
    congr 3
    simpa [Array.toList_setIfInBounds, Nat.add_assoc] using h3

/-- A row of bytes of the call's own; its mark, if it has one, lies behind its last place. -/
def OwnB (w : World) (base : Nat) (v : Value) (xs : List UInt8) : Prop :=
  ∃ g cap cur fz, v = .slice (some ⟨g, 0, none⟩) xs.length cap ∧ base ≤ g ∧ w.heap[g]? = some (.cells cur 5 fz) ∧ (cur.size ≤ fz.1 ∨ fz.2 = 0) ∧ xs.length ≤ cap ∧ cap ≤ maxLen ∧ cur.size = cap ∧ cur.toList.take xs.length = xs.map encB
theorem OwnB.below {w w' : World} {base : Nat} {v : Value} {xs : List UInt8} (h : OwnB w base v xs) (hb : Below w.heap.size w w') : OwnB w' base v xs := by
  obtain ⟨g, cap, cur, fz, h1, h2, h3, r⟩ := h
  have hlt : g < w.heap.size := by
    rcases Nat.lt_or_ge g w.heap.size with h' | h'
    · exact h'
    · rw [Array.getElem?_eq_none h'] at h3; cases h3
  exact ⟨g, cap, cur, fz, h1, h2, (hb.block g hlt).trans h3, r⟩
/-- []byte(s). -/
theorem own_text (w : World) (s : ByteArray) (hs : s.size ≤ 1000000000) : ∃ v w', (convert 9 22 (.string s)).run Tryz.prog w = .ok v w' ∧ OwnB w' w.heap.size v s.data.toList ∧ Below w.heap.size w w' := by
  refine ⟨_, _, Lib.run_convert_string_bytes w _ _ 5 s Tryz.underlying9 Tryz.underlying22 Tryz.underlying5, ?_, ?_⟩
  · have hge := grownCap_ge w s.size 0 5
    have hle := grownCap_le_maxLen w s.size 0 5 (by unfold maxLen; omega)
    have hcs : (Lib.bytesCells w 5 s).size = grownCap w s.size 0 5 := by
      unfold Lib.bytesCells
      rw [Array.size_append, Array.size_map, Array.size_replicate]
      have : s.data.size = s.size := rfl
      omega
    have hll : s.data.toList.length = s.size := Array.length_toList
    refine ⟨w.heap.size, grownCap w s.size 0 5, Lib.bytesCells w 5 s, _, by rw [hll], Nat.le_refl _, Lib.bytesWorld_at_new w 5 s, .inl (Nat.le_refl _), by rw [hll]; exact hge, hle, hcs, ?_⟩
    unfold Lib.bytesCells
    rw [Array.toList_append, List.take_left' (by rw [Array.length_toList, Array.size_map]; exact hll.symm), Array.toList_map]
  · exact ⟨rfl, rfl, rfl, by rw [Lib.bytesWorld_size]; omega, fun k hk => Lib.bytesWorld_at_old w _ s k hk⟩

/-- append(b, t...). -/
theorem wpList_appT {ops : Array Oper} {rest : List Oper} {o : Oper} {a : Go.Act} {Q : Exit → Go.Act → World → Prop} (hgd : o.guard = none) (sl x : Operand)
    (ho : o.op = .call { callee := .builtin .append, args := #[sl, x], argTypes := #[22, 9] })
    (w : World) (base : Nat) (v : Value) (xs : List UInt8) (t : ByteArray) (hs : a.eval sl = v) (hown : OwnB w base v xs)
    (hx : a.eval x = .string t) (hlen : xs.length ≤ 1000000000) (hlt : t.size ≤ 1000000000) (hbase : base ≤ w.heap.size)
    (h : ∀ v' w', OwnB w' base v' (xs ++ t.data.toList) → Below base w w' → wpList Tryz.prog ops Q rest (a.put o.dst v') w') : wpList Tryz.prog ops Q (o :: rest) a w := by
  obtain ⟨i0, hi0, hz0, hz1, hz2⟩ := info_parts infoByte
  obtain ⟨g, cap, cur, fz, rfl, hbg, hg, hfz, hnc, hcm, hcs, htake⟩ := hown
  have hsl : (Lib.strCells t).length = t.size := Lib.strCells_length t
  have htl : t.data.toList.length = t.size := Array.length_toList
  have hglt : g < w.heap.size := by
    rcases Nat.lt_or_ge g w.heap.size with h' | h'
    · exact h'
    · rw [Array.getElem?_eq_none h'] at hg; cases hg
  refine wpList_plain hgd fun K hK => ?_
  by_cases hroom : xs.length + t.size ≤ cap
  · have hst := store_free Tryz.prog 5 fz (Lib.strCells t) g xs.length 0 cur w (Lib.strCells_oneCell t) hg hfz (by rw [hsl]; omega)
    have hfc := Lib.run_firstCells_string (P := Tryz.prog) w 1 t
    rw [Nat.add_zero, hsl] at hst
    have hr : (Builtin.append_ #[22, 9] o.type #[.slice (some ⟨g, 0, none⟩) xs.length cap, .string t]).run Tryz.prog w =
        .ok (.slice (some ⟨g, 0, none⟩) (xs.length + t.size) cap) (w.setRow g (cur.toList.take xs.length ++ Lib.strCells t ++ cur.toList.drop (xs.length + t.size)).toArray) := by
      simp [Builtin.append_, run_underlying Tryz.underlying22, run_underlying Tryz.underlying9, sizeOf, typeInfo, hi0, hz1, Builtin.lenOf, hroom, hfc, Addr.add_lit, hst]
    unfold Oper.wp execOp
    simp only [ho, resolve, invoke, builtin, Sem.run_bind, Sem.run_pure, Result.andThen_ok, List.map_toArray, List.map_cons, List.map_nil, hs, hx, hr]
    refine hK _ _ (h _ _ ⟨g, cap, _, fz, by rw [List.length_append, htl], hbg, setRow_heap w g cur _ 5 fz hg, ?_, by rw [List.length_append, htl]; exact hroom, hcm, ?_, ?_⟩ ⟨rfl, rfl, rfl, by simp, fun k hk => setRow_other w g k _ (by omega)⟩)
    · simp only [List.size_toArray, List.length_append, List.length_take, List.length_drop, Array.length_toList, hsl]
      rcases hfz with h1 | h1
      · left; omega
      · right; exact h1
    · simp only [List.size_toArray, List.length_append, List.length_take, List.length_drop, Array.length_toList, hsl]
      omega
    · rw [htake, List.length_append, List.map_append, ← strCells_enc]
      rw [List.take_left' (by rw [List.length_append, List.length_map, hsl, htl])]
  · have holds : ∀ j u, (xs.map encB)[j]? = some u → w.cell? ((⟨g, 0, none⟩ : Addr).add j) = some u := by
      intro j u hj
      have ha : (⟨g, 0, none⟩ : Addr).add j = ⟨g, j, none⟩ := by unfold Addr.add; split <;> simp_all
      rw [ha]
      unfold World.cell?
      rw [hg]
      have hjl : j < xs.length := by
        rcases Nat.lt_or_ge j xs.length with h' | h'
        · exact h'
        · rw [List.getElem?_eq_none (by rw [List.length_map]; exact h')] at hj; cases hj
      rw [← htake, List.getElem?_take, if_pos hjl] at hj
      simpa using hj
    have hr := Lib.run_append_grow_string (P := Tryz.prog) w 22 9 o.type 5 i0 (.int .u8 0) Tryz.underlying22 Tryz.underlying9 hi0 hz0 ⟨g, 0, none⟩ xs.length cap (xs.map encB) (by rw [hz1, List.length_map, Nat.mul_one]) holds t (by omega) (by omega) (by rw [hz2]; exact growslice_fits (by omega) (by omega))
    unfold Oper.wp execOp
    simp only [ho, resolve, invoke, builtin, Sem.run_bind, Sem.run_pure, Result.andThen_ok, List.map_toArray, List.map_cons, List.map_nil, hs, hx, hr]
    have hge := grownCap_ge w (xs.length + t.size) cap 5
    have hcm2 := grownCap_le_maxLen w (xs.length + t.size) cap 5 (by unfold maxLen; omega)
    refine hK _ _ (h _ _ ⟨w.heap.size, _, _, (0, 0), by rw [List.length_append, htl], hbase, heap_alloc_new w.drew _, .inr rfl, by rw [List.length_append, htl]; exact hge, hcm2, ?_, ?_⟩ ⟨rfl, rfl, rfl, by simp, fun k hk => heap_alloc_old w.drew _ (show k < w.drew.heap.size from Nat.lt_of_lt_of_le hk hbase)⟩)
    · have hz3 : (Value.int IntKind.u8 0).cells.size = 1 := rfl
      simp only [Array.size_append, List.size_toArray, size_zeroCells, hz3, hsl, List.length_map]
      omega
    · simp only [Array.toList_append, List.append_assoc]
      rw [← List.append_assoc, List.length_append, List.map_append, ← strCells_enc]
      exact List.take_left' (by rw [List.length_append, List.length_map, hsl, htl])

/-- string(b). -/
theorem text_own {w : World} {base : Nat} {v : Value} {xs : List UInt8} (h : OwnB w base v xs) : (convert 22 9 v).run Tryz.prog w = .ok (.string ⟨xs.toArray⟩) w := by
  obtain ⟨g, cap, cur, fz, rfl, _, hg, _, _, _, hcs, htake⟩ := h
  have := run_convert_bytes_arg (P := Tryz.prog) w 22 5 Tryz.underlying22 Tryz.underlying5 g 0 xs.length cap (xs.map fun c => (c.toNat : Int)) (by simp) (fun i hi => by
    unfold World.cell?
    rw [hg]
    have h1 : (cur.toList.take xs.length)[i]? = (xs.map encB)[i]? := by rw [htake]
    rw [List.getElem?_take, if_pos hi] at h1
    simp only [Nat.zero_add]
    rw [Array.getElem?_toList] at h1
    rw [h1]
    simp [List.getD_eq_getElem?_getD, List.getElem?_eq_getElem hi]) 9 Tryz.underlying9
  have e : strOfNums (xs.map fun c => (c.toNat : Int)) = ⟨xs.toArray⟩ := by
    unfold strOfNums
    rw [List.map_map]
    have : ((fun n : Int => UInt8.ofNat n.toNat) ∘ fun c : UInt8 => (c.toNat : Int)) = id := by
      funext c
      simp
    rw [this, List.map_id]
  rw [this, e]
end Go.Proofs.YtfibjcaidnofmaaGreatDoor
