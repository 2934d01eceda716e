/- Walks: l31Line, l31File of the reference; fileOk of the program. -/
import Derived.Test.YtcfmgmbolnifgaaFilTo
import Derived.Test.YtcfmgmbolnifgaaActs
import Derived.Test.YtcfmgmbolnifgaaNames
import Derived.Test.YtcfmgmbolnifgaaShelfK
import Derived.Test.YtcfmgmbolnifgaaShelfC
namespace Go.Proofs.Ytcfmgmbolnifgaa
open Go.RowKit Go.Shelf

def noLf (l : List UInt8) : Bool := l.all (· != 10)
def lineB (s : ByteArray) : Bool := decide (s.size ≤ 80) && noLf s.data.toList
def filB (f : Fil) : Bool := nameB f.name && decide (f.lines.length ≤ 20) && lineB f.part && inB f.at_ 0 f.lines.length && f.lines.all lineB

theorem take_snoc (s : ByteArray) (k : Nat) (h : k < s.size) : s.data.toList.take (k + 1) = s.data.toList.take k ++ [s[k]] := by
  rw [List.take_succ_eq_append_getElem (by simpa using h)]; rfl
theorem noLf_snoc (s : ByteArray) (k : Nat) (h : k < s.size) : noLf (s.data.toList.take (k + 1)) = (noLf (s.data.toList.take k) && (s[k] != 10)) := by
  rw [take_snoc s k h]; simp [noLf]
theorem noLf_at (s : ByteArray) (k : Nat) (h : k < s.size) (h10 : s[k].toNat = 10) : noLf s.data.toList = false := by
  unfold noLf
  rw [List.all_eq_false]
  refine ⟨s[k], ?_, ?_⟩
  · have : s[k] = s.data.toList[k]'(by simpa using h) := rfl
    rw [this]; exact List.getElem_mem _
  · have : s[k] = 10 := by
      apply UInt8.toNat_inj.1; rw [h10]; rfl
    simp [this]
theorem indexByte_lf (l : List UInt8) : decide (0 ≤ Lib.indexByte l 10) = !noLf l := by
  induction l with
  | nil => rfl
  | cons b l ih =>
    have h1 : ∀ m : List UInt8, -1 ≤ Lib.indexByte m 10 := by
      intro m
      induction m with
      | nil => simp [Lib.indexByte]
      | cons b m ihm => unfold Lib.indexByte; split <;> (try split) <;> omega
    have h2 := h1 l
    have e : noLf (b :: l) = ((b != 10) && noLf l) := by simp [noLf]
    rw [e, Bool.not_and, ← ih]
    have eq : Lib.indexByte (b :: l) 10 = if b == 10 then 0 else if Lib.indexByte l 10 == -1 then -1 else Lib.indexByte l 10 + 1 := rfl
    rw [eq]
    by_cases hb : b = 10
    · subst hb; simp
    · rw [if_neg (by simpa using hb)]
      have hb' : (b != 10) = true := by simpa using hb
      rw [hb', Bool.not_true, Bool.false_or]
      split
      · rename_i h3
        have : Lib.indexByte l 10 = -1 := by simpa using h3
        rw [this]
      · rename_i h3
        have : Lib.indexByte l 10 ≠ -1 := by simpa using h3
        rw [decide_eq_decide]; omega

set_option maxHeartbeats 1000000 in
theorem l31Line_any (s : ByteArray) (w : World) (hs : s.size ≤ 9223372036854775807) :
    Calls Try.prog 120 #[.string s] w fun e w' => e = .returned (.bool (lineB s)) ∧ w = w' := by
  go_enter Try.func120, Try.ntmps120
  go_wp2
  go_loop [3] (fun i => ∃ k : Nat, k ≤ s.size ∧ i = .int .i64 k ∧ noLf (s.data.toList.take k) = true) (fun i => s.size - (intOf i).toNat)
  case atStart => exact ⟨0, Nat.zero_le _, rfl, rfl⟩
  case round =>
    obtain ⟨k, hk, rfl, ht⟩ := hrel
    have HT := Lib.hid ht; clear ht
    by_cases hlt : k < s.size
    · have HS := Lib.hid (noLf_snoc s k hlt)
      have HN := Lib.hid (noLf_at s k hlt)
      by_cases h10 : s[k].toNat = 10
      · have h10b : ((s[k].toNat : Int) == 10) = true := by rw [beq_iff_eq]; omega
        have H10 := Lib.hid h10; clear h10
        go_wp2
        go_ret
        exact ⟨by rw [show lineB s = false by unfold lineB; rw [HN.out H10.out, Bool.and_false]]; rfl, rfl⟩
      · have h10b : ((s[k].toNat : Int) == 10) = false := by rw [beq_eq_false_iff_ne]; omega
        have hne : (s[k] != 10) = true := by
          rw [bne_iff_ne]; intro e; rw [e] at h10; exact h10 rfl
        have HNE := Lib.hid hne; clear hne
        go_wp2
        go_round
        case rel => exact ⟨k + 1, by omega, by go_num, by rw [HS.out, HT.out, HNE.out]; rfl⟩
        case measure => simp [intOf]; omega
    · obtain rfl : k = s.size := by omega
      have hall : noLf s.data.toList = true := by
        have := HT.out
        rwa [List.take_of_length_le (by simp)] at this
      have HA := Lib.hid hall; clear hall
      by_cases h80 : s.size ≤ 80
      · go_wp2
        go_ret
        refine ⟨congrArg (fun b => Ending.returned (.bool b)) ?_, rfl⟩
        rw [show lineB s = true by unfold lineB; rw [HA.out, Bool.and_true]; simp [h80]]
        first | rfl | (simp; omega)
      · go_wp2
        go_ret
        refine ⟨congrArg (fun b => Ending.returned (.bool b)) ?_, rfl⟩
        rw [show lineB s = false by unfold lineB; rw [HA.out, Bool.and_true]; simp [h80]]
        first | rfl | (simp; omega)

set_option maxHeartbeats 4000000 in
theorem l31File_any (f : Fil) (v : Value) (lo hi : Nat) (w : World) (hx : FilR w lo hi v f) (hhi : hi ≤ w.heap.size) (hs : FilSmall f) :
    Calls Try.prog 82 #[v] w fun e w' => e = .returned (.bool (filB f)) ∧ Below w.heap.size w w' := by
  obtain ⟨name, lines, part, at_⟩ := f
  obtain ⟨A, c, rfl, hA⟩ := hx
  obtain ⟨h1, h2, h3, h4⟩ := hs
  dsimp only at *
  have hbo := (Below.refl w.heap.size w).alloc (Nat.le_refl _) (.cells #[.string name, .slice A lines.length c, .string part, .int .i64 at_] 91)
  have HA := Lib.hid (hA.below hbo hhi)
  have HD := Lib.hid hbo
  have H4 := Lib.hid h4
  clear hA hbo h4
  go_enter Try.func82, Try.ntmps82
  go_wp2_with fail
  go_loop [3] (fun i => ∃ k : Nat, k ≤ lines.length ∧ k ≤ 21 ∧ i = .int .i64 k ∧ (lines.take k).all lineB = true) (fun i => lines.length - (intOf i).toNat)
  case atStart => exact ⟨0, Nat.zero_le _, by omega, rfl, rfl⟩
  case round =>
    obtain ⟨k, hk, hk21, rfl, ht⟩ := hrel
    have HT := Lib.hid ht; clear ht
    by_cases hlt : k < lines.length ∧ k ≤ 20
    · obtain ⟨hlt, hk20⟩ := hlt
      obtain ⟨b, off, rfl, _, hb, hcell⟩ := HA.out.at_ hlt
      have HS := Lib.hid (all_take_succ lineB ByteArray.empty lines k hlt)
      have HF := Lib.hid (all_false_at lineB ByteArray.empty lines k hlt)
      have hsz := H4.out _ (getD_mem (d := ByteArray.empty) hlt)
      generalize lines.getD k ByteArray.empty = X at *
      cases hX : lineB X
      · have HX := Lib.hid hX; clear hX
        go_wp2_with fail
        refine (l31Line_any X _ (by omega)).mono ?_
        rintro e1 w1 ⟨rfl, rfl⟩
        rw [HX.out]
        go_wp2_with fail
        go_ret
        exact ⟨by rw [show filB ⟨name, lines, part, at_⟩ = false by unfold filB; dsimp only; rw [HF.out HX.out, Bool.and_false]]; rfl, HD.out⟩
      · have HX := Lib.hid hX; clear hX
        go_wp2_with fail
        refine (l31Line_any X _ (by omega)).mono ?_
        rintro e1 w1 ⟨rfl, rfl⟩
        rw [HX.out]
        go_wp2_with fail
        go_round
        case rel => exact ⟨k + 1, by omega, by omega, by go_num, by rw [HS.out, HT.out, HX.out]; rfl⟩
        case measure => simp [intOf]; omega
    · have hres : filB ⟨name, lines, part, at_⟩ = (nameB name && decide (lines.length ≤ 20) && lineB part && inB at_ 0 lines.length) := by
        unfold filB
        dsimp only
        by_cases h20 : lines.length ≤ 20
        · obtain rfl : k = lines.length := by omega
          have := HT.out
          rw [List.take_length] at this
          rw [this, Bool.and_true]
        · simp [h20]
      have HRES := Lib.hid hres; clear hres
      have hcond : (k < lines.length ∧ 20 < k) ∨ (lines.length ≤ k) := by omega
      clear hlt
      cases hN : nameB name <;> cases hP : lineB part <;> cases hI : inB at_ 0 lines.length <;> (by_cases h20 : lines.length ≤ 20) <;> rcases hcond with ⟨hc1, hc2⟩ | hc
      all_goals (try (exfalso; omega))
      all_goals
        go_wp2_with (first | (go_at_call 58; refine (specNameOk_any name _ (by omega)).mono ?_; rintro e1 w1 ⟨rfl, rfl⟩) | (go_at_call 120; refine (l31Line_any part _ (by omega)).mono ?_; rintro e1 w1 ⟨rfl, rfl⟩) | (go_at_call 62; refine (l00In_any at_ 0 lines.length _).mono ?_; rintro e1 w1 ⟨rfl, rfl⟩))
        go_ret
        refine ⟨congrArg (fun b => Ending.returned (.bool b)) ?_, HD.out⟩
        rw [HRES.out, hN, hP, hI]
        first | rfl | (simp; done) | (simp; omega)

end Go.Proofs.Ytcfmgmbolnifgaa
