/- Walks: what a right screen is (both ScreenOk). -/
import Derived.Test.YtbpopkaafellgaaDoorActs
import Derived.Test.YtbpopkaafellgaaDoorScreenPlain
import Derived.Test.YtbpopkaafellgaaDoorShelfS
namespace Go.Proofs.YtbpopkaafellgaaDoor
open Go.RowKit

set_option maxHeartbeats 400000 in
theorem l22Shows_any (c : Nat) (w : World) (hc : c ≤ 255) : Calls Tryd.prog 16 #[.int .u8 c] w fun e w' => e = .returned (.bool (showsB c)) ∧ w = w' := by
  rcases (show (32 ≤ c ∧ c ≤ 126) ∨ 126 < c ∨ c < 32 from by omega) with h | h | h
  all_goals
    go_enter Tryd.func16, Tryd.ntmps16
    go_wp2
    go_ret
    refine ⟨?_, rfl⟩
    refine congrArg (fun b => Ending.returned (.bool b)) ?_
    unfold showsB
    rw [Bool.eq_iff_iff]
    simp
    try omega

/-- The value of a screen, and where its rows lie. -/
def ScrR (w : World) (lo hi : Nat) (v : Value) (s : Scr) : Prop :=
  ∃ A c, v = .agg #[.int .i64 s.row, .int .i64 s.col, .slice A s.rows.length c] ∧ StrR w lo hi A s.rows.length s.rows

theorem ScrR.below {w w' : World} {lo hi B : Nat} {v : Value} {s : Scr} (h : ScrR w lo hi v s) (hb : Below B w w') (hB : hi ≤ B) : ScrR w' lo hi v s := by
  obtain ⟨A, c, hv, h1⟩ := h
  exact ⟨A, c, hv, h1.below hb hB⟩

def ScrSmall (s : Scr) : Prop := s.rows.length ≤ 1048576 ∧ ∀ r ∈ s.rows, r.size ≤ 1048576

theorem rowB_false_size {r : ByteArray} (h : r.size ≠ 20) : rowB r = false := by simp [rowB, h]
theorem rowB_false_at {r : ByteArray} {k : Nat} (hk : k < r.size) (h : showsB (r.get! k).toNat = false) : rowB r = false := by
  unfold rowB; rw [rowTo_false hk h]; simp
theorem scrB_false_row {s : Scr} {k : Nat} (hk : k < s.rows.length) (h : rowB (s.rows.getD k ByteArray.empty) = false) : scrB s = false := by
  unfold scrB
  rw [all_false_at rowB ByteArray.empty s.rows k hk h, Bool.and_false]
theorem scrB_true {s : Scr} (h1 : s.rows.length = 6) (h2 : 0 ≤ s.row) (h3 : s.row ≤ 5) (h4 : 0 ≤ s.col) (h5 : s.col ≤ 19) (h6 : s.rows.all rowB = true) : scrB s = true := by
  simp [scrB, h1, h2, h3, h4, h5, h6]

set_option maxHeartbeats 4000000 in
set_option maxRecDepth 100000 in
theorem specScreenOk_any (s : Scr) (v : Value) (lo hi : Nat) (w : World) (hx : ScrR w lo hi v s) (hhi : hi ≤ w.heap.size) (hs : ScrSmall s) :
    Calls Tryd.prog 6 #[v] w fun e w' => e = .returned (.bool (scrB s)) ∧ Below w.heap.size w w' := by
  obtain ⟨A, c, rfl, hA⟩ := hx
  obtain ⟨hs1, hs2⟩ := hs
  have hbo := fun o => (Below.refl w.heap.size w).alloc (Nat.le_refl _) o
  have HD := Lib.hid hbo
  have hA' := fun o => hA.below (hbo o) hhi
  have HSZ := Lib.hid hs2
  clear hA hbo hs2
  by_cases h6n : s.rows.length ≠ 6
  · have h6 : ¬ (s.rows.length = 6) := h6n
    have n6 : ((s.rows.length : Int) != 6) = true := by rw [bne_iff_ne]; omega
    rw [show scrB s = false by simp [scrB, h6]]
    clear hA'
    go_enter Tryd.func6, Tryd.ntmps6
    go_wp2_with fail
    go_ret
    exact ⟨rfl, HD.out _⟩
  have h6 : s.rows.length = 6 := by omega
  clear h6n
  have n6 : ((s.rows.length : Int) != 6) = false := by simp [h6]
  have H6 := Lib.hid h6
  have l6 : s.rows.length ≤ 6 := by omega
  have g6 : 6 ≤ s.rows.length := by omega
  clear h6
  cases hr : inB s.row 0 5
  · rw [show scrB s = false by have : ¬ (0 ≤ s.row ∧ s.row ≤ 5) := by simpa [inB] using hr
                               simp only [scrB, decide_eq_false this, Bool.and_false, Bool.false_and]]
    clear hA'
    go_enter Tryd.func6, Tryd.ntmps6
    go_wp2_with (go_at_call 15; refine (l00In_any _ _ _ _).mono ?_; rintro e' w' ⟨rfl, rfl⟩)
    go_ret
    exact ⟨rfl, HD.out _⟩
  have hrow : 0 ≤ s.row ∧ s.row ≤ 5 := by simpa [inB] using hr
  cases hcl : inB s.col 0 19
  · rw [show scrB s = false by have : ¬ (0 ≤ s.col ∧ s.col ≤ 19) := by simpa [inB] using hcl
                               simp only [scrB, decide_eq_false this, Bool.and_false, Bool.false_and]]
    clear hA'
    go_enter Tryd.func6, Tryd.ntmps6
    go_wp2_with (go_at_call 15; refine (l00In_any _ _ _ _).mono ?_; rintro e' w' ⟨rfl, rfl⟩)
    go_ret
    exact ⟨rfl, HD.out _⟩
  have hcol : 0 ≤ s.col ∧ s.col ≤ 19 := by simpa [inB] using hcl
  have HT := Lib.hid (show s.rows.all rowB = true → scrB s = true from fun h => scrB_true H6.out hrow.1 hrow.2 hcol.1 hcol.2 h)
  have HF := Lib.hid (fun (k : Nat) (hk : k < s.rows.length) (h : rowB (s.rows.getD k ByteArray.empty) = false) => scrB_false_row hk h)
  have HA := Lib.hid hA'
  clear hA' hrow hcol
  go_enter Tryd.func6, Tryd.ntmps6
  go_wp2_with (go_at_call 15; refine (l00In_any _ _ _ _).mono ?_; rintro e' w' ⟨rfl, rfl⟩)
  go_loop [3] (fun i => ∃ k : Nat, k ≤ s.rows.length ∧ i = .int .i64 k ∧ (s.rows.take k).all rowB = true) (fun i => s.rows.length - (intOf i).toNat)
  case atStart => exact ⟨0, Nat.zero_le _, rfl, rfl⟩
  case round =>
    obtain ⟨k, hk, rfl, ht⟩ := hrel
    have HK := Lib.hid ht; clear ht
    by_cases hlt : k < s.rows.length
    · obtain ⟨b, off, rfl, _, hb, hcell⟩ := (HA.out (.cells #[.int .i64 s.row, .int .i64 s.col, .slice A s.rows.length c] 26)).at_ hlt
      have HN := Lib.hid (HF.out k hlt)
      have HS := Lib.hid (all_take_succ rowB ByteArray.empty s.rows k hlt)
      have hsz : (s.rows.getD k ByteArray.empty).size ≤ 1048576 := by
        rw [List.getD_eq_getElem?_getD, List.getElem?_eq_getElem hlt]
        exact HSZ.out _ (List.getElem_mem _)
      generalize s.rows.getD k ByteArray.empty = X at *
      by_cases h20 : X.size = 20
      · have n20 : ((X.size : Int) != 20) = false := by simp [h20]
        have H20 := Lib.hid h20
        have l20 : X.size ≤ 20 := by omega
        have g20 : 20 ≤ X.size := by omega
        clear h20
        go_wp2_with fail
        go_loop [4] (fun i => ∃ j : Nat, j ≤ X.size ∧ i = .int .i64 j ∧ rowTo X j = true) (fun i => X.size - (intOf i).toNat)
        case atStart => exact ⟨0, Nat.zero_le _, rfl, rfl⟩
        case round =>
          obtain ⟨j, hj, rfl, htj⟩ := hrel
          have HJ := Lib.hid htj; clear htj
          by_cases hjl : j < X.size
          · have HB := Lib.hid (byte_at hjl)
            have h255 := byte_le X[j]
            cases hsh : showsB X[j].toNat
            · have HR := Lib.hid (HN.out (rowB_false_at hjl (by rw [HB.out]; exact hsh)))
              have HSH := Lib.hid hsh; clear hsh
              go_wp2_with (go_at_call 16; refine (l22Shows_any _ _ h255).mono ?_; rintro e' w' ⟨rfl, rfl⟩; rw [HSH.out])
              go_ret
              exact ⟨by rw [HR.out]; rfl, HD.out _⟩
            · have HSH := Lib.hid hsh; clear hsh
              go_wp2_with (go_at_call 16; refine (l22Shows_any _ _ h255).mono ?_; rintro e' w' ⟨rfl, rfl⟩; rw [HSH.out])
              go_round
              case rel => exact ⟨j + 1, by omega, by go_num, by rw [rowTo_succ, HJ.out, HB.out, HSH.out]; rfl⟩
              case measure => simp [intOf]; omega
          · obtain rfl : j = X.size := by omega
            go_wp2_with fail
            go_round
            case rel => exact ⟨k + 1, by omega, by go_num, by rw [HS.out, HK.out]; unfold rowB; rw [HJ.out, decide_eq_true H20.out]; rfl⟩
            case measure => simp [intOf]; omega
      · have n20 : ((X.size : Int) != 20) = true := by rw [bne_iff_ne]; omega
        have HR := Lib.hid (HN.out (rowB_false_size h20))
        clear h20
        go_wp2_with fail
        go_ret
        exact ⟨by rw [HR.out]; rfl, HD.out _⟩
    · obtain rfl : k = s.rows.length := by omega
      have HR := Lib.hid (HT.out (by have := HK.out; rwa [List.take_length] at this))
      go_wp2_with fail
      go_ret
      exact ⟨by rw [HR.out]; rfl, HD.out _⟩

theorem hides_pays (w : World) : PredAtRunes Tryd.prog 29 #[] hidesP w := by
  intro W x hx hb
  unfold FnGives
  rcases (show x < 32 ∨ (32 ≤ x ∧ x ≤ 126) ∨ 126 < x from by omega) with h | h | h
  all_goals
    go_enter Tryd.func29, Tryd.ntmps29
    go_wp2
    go_ret
    refine ⟨?_, 0, rfl⟩
    refine congrArg (fun b => Ending.returned (.bool b)) ?_
    unfold hidesP
    rw [Bool.eq_iff_iff]
    simp
    try omega

set_option maxHeartbeats 4000000 in
set_option maxRecDepth 100000 in
theorem implScreenOk_any (s : Scr) (v : Value) (lo hi : Nat) (w : World) (hx : ScrR w lo hi v s) (hhi : hi ≤ w.heap.size) (hs : ScrSmall s) :
    Calls Tryd.prog 17 #[v] w fun e w' => e = .returned (.bool (scrB s)) ∧ Below w.heap.size w w' := by
  obtain ⟨A, c, rfl, hA⟩ := hx
  obtain ⟨hs1, hs2⟩ := hs
  have hbo := fun o => (Below.refl w.heap.size w).alloc (Nat.le_refl _) o
  have HD := Lib.hid hbo
  have hA' := fun o => hA.below (hbo o) hhi
  have HSZ := Lib.hid hs2
  clear hA hbo hs2
  by_cases h6n : s.rows.length ≠ 6
  · have h6 : ¬ (s.rows.length = 6) := h6n
    have n6 : ((s.rows.length : Int) != 6) = true := by rw [bne_iff_ne]; omega
    rw [show scrB s = false by simp [scrB, h6]]
    clear hA'
    go_enter Tryd.func17, Tryd.ntmps17
    go_wp2_with fail
    go_ret
    exact ⟨rfl, HD.out _⟩
  have h6 : s.rows.length = 6 := by omega
  clear h6n
  have n6 : ((s.rows.length : Int) != 6) = false := by simp [h6]
  have H6 := Lib.hid h6
  have l6 : s.rows.length ≤ 6 := by omega
  have g6 : 6 ≤ s.rows.length := by omega
  clear h6
  cases hr : inB s.row 0 5
  · rw [show scrB s = false by have : ¬ (0 ≤ s.row ∧ s.row ≤ 5) := by simpa [inB] using hr
                               simp only [scrB, decide_eq_false this, Bool.and_false, Bool.false_and]]
    clear hA'
    go_enter Tryd.func17, Tryd.ntmps17
    go_wp2_with (go_at_call 27; refine (within_any _ _ _ _).mono ?_; rintro e' w' ⟨rfl, rfl⟩)
    go_ret
    exact ⟨rfl, HD.out _⟩
  have hrow : 0 ≤ s.row ∧ s.row ≤ 5 := by simpa [inB] using hr
  cases hcl : inB s.col 0 19
  · rw [show scrB s = false by have : ¬ (0 ≤ s.col ∧ s.col ≤ 19) := by simpa [inB] using hcl
                               simp only [scrB, decide_eq_false this, Bool.and_false, Bool.false_and]]
    clear hA'
    go_enter Tryd.func17, Tryd.ntmps17
    go_wp2_with (go_at_call 27; refine (within_any _ _ _ _).mono ?_; rintro e' w' ⟨rfl, rfl⟩)
    go_ret
    exact ⟨rfl, HD.out _⟩
  have hcol : 0 ≤ s.col ∧ s.col ≤ 19 := by simpa [inB] using hcl
  have HT := Lib.hid (show s.rows.all rowB = true → scrB s = true from fun h => scrB_true H6.out hrow.1 hrow.2 hcol.1 hcol.2 h)
  have HF := Lib.hid (fun (k : Nat) (hk : k < s.rows.length) (h : rowB (s.rows.getD k ByteArray.empty) = false) => scrB_false_row hk h)
  have HA := Lib.hid hA'
  clear hA' hrow hcol
  have HP := Lib.hid (fun (X : ByteArray) (W : World) => Tryd.strings_ContainsFunc_runes 29 #[] (enters_of Tryd.func29 (by kernel_rfl) rfl) hidesP X W (hides_pays W))
  go_enter Tryd.func17, Tryd.ntmps17
  go_wp2_with (go_at_call 27; refine (within_any _ _ _ _).mono ?_; rintro e' w' ⟨rfl, rfl⟩)
  go_loopw [24] (fun i wr => ∃ k : Nat, k ≤ s.rows.length ∧ i = .int .i64 k ∧ (s.rows.take k).all rowB = true ∧ Below (w.heap.size + 1) (w.alloc (.cells #[.int .i64 s.row, .int .i64 s.col, .slice A s.rows.length c] 26)) wr) (fun i _ => s.rows.length - (intOf i).toNat)
  case atStart => exact ⟨0, Nat.zero_le _, rfl, rfl, Below.refl _ _⟩
  case round =>
    obtain ⟨k, hk, rfl, ht, hbel⟩ := hrel
    have HK := Lib.hid ht; clear ht
    have HBW := Lib.hid ((HD.out (.cells #[.int .i64 s.row, .int .i64 s.col, .slice A s.rows.length c] 26)).trans (hbel.mono (by omega)))
    by_cases hlt : k < s.rows.length
    · obtain ⟨b, off, rfl, _, hb, hcell⟩ := ((HA.out (.cells #[.int .i64 s.row, .int .i64 s.col, .slice A s.rows.length c] 26)).below hbel (by omega)).at_ hlt
      have HN := Lib.hid (HF.out k hlt)
      have HS := Lib.hid (all_take_succ rowB ByteArray.empty s.rows k hlt)
      have hsz : (s.rows.getD k ByteArray.empty).size ≤ 1048576 := by
        rw [List.getD_eq_getElem?_getD, List.getElem?_eq_getElem hlt]
        exact HSZ.out _ (List.getElem_mem _)
      generalize s.rows.getD k ByteArray.empty = X at *
      have HBEL := Lib.hid hbel; clear hbel
      by_cases h20 : X.size = 20
      · have n20 : ((X.size : Int) != 20) = false := by simp [h20]
        have H20 := Lib.hid h20
        clear h20
        have HPX := Lib.hid (HP.out X wr)
        rw [contains_hides] at HPX
        cases hro : rowTo X X.size
        · have HR := Lib.hid (HN.out (show rowB X = false by unfold rowB; rw [hro]; simp))
          rw [hro] at HPX
          clear hro
          go_wp2_with fail
          refine HPX.out.mono ?_
          rintro e1 w1 ⟨rfl, hb1⟩
          have HB2 := Lib.hid (HBW.out.trans (hb1.mono HBW.out.size)); clear hb1
          go_wp2_with fail
          go_ret
          exact ⟨by rw [HR.out]; rfl, HB2.out⟩
        · have HRO := Lib.hid hro
          rw [hro] at HPX
          clear hro
          go_wp2_with fail
          refine HPX.out.mono ?_
          rintro e1 w1 ⟨rfl, hb1⟩
          have HB2 := Lib.hid (HBEL.out.trans (hb1.mono (by have := HBEL.out.size; simpa using this))); clear hb1
          go_wp2_with fail
          go_roundw
          case rel => exact ⟨k + 1, by omega, by go_num, by rw [HS.out, HK.out]; unfold rowB; rw [HRO.out, decide_eq_true H20.out]; rfl, HB2.out⟩
          case measure => simp [intOf]; omega
      · have n20 : ((X.size : Int) != 20) = true := by rw [bne_iff_ne]; omega
        have HR := Lib.hid (HN.out (rowB_false_size h20))
        clear h20
        go_wp2_with fail
        go_ret
        exact ⟨by rw [HR.out]; rfl, HBW.out⟩
    · obtain rfl : k = s.rows.length := by omega
      have HR := Lib.hid (HT.out (by have := HK.out; rwa [List.take_length] at this))
      clear hbel
      go_wp2_with fail
      go_ret
      exact ⟨by rw [HR.out]; rfl, HBW.out⟩

end Go.Proofs.YtbpopkaafellgaaDoor
