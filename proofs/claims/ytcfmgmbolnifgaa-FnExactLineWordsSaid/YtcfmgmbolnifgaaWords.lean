/- Walks: the reference's and the program's LineWords. -/
import Derived.Test.YtcfmgmbolnifgaaStr
import Derived.Test.YtcfmgmbolnifgaaWordsPlain
import Derived.Test.YtcfmgmbolnifgaaShelfF
namespace Go.Proofs.Ytcfmgmbolnifgaa
open Go.RowKit

theorem infoStr : (Try.prog.info? 9).map (fun i => (i.zero, i.size, i.bytes)) = some (some (.string ⟨#[]⟩), 1, 16) := by kernel_rfl

theorem get_bang {s : ByteArray} {k : Nat} (h : k < s.size) : s.get! k = s[k] := by
  show s.data[k]! = s.data[k]
  exact getElem!_pos s.data k h

theorem wordsTo_cut {s : ByteArray} {k : Nat} (h : k = s.size ∨ (s.get! k).toNat = 32) : wordsTo s (k + 1) = ((wordsTo s k).1 ++ [s.extract (wordsTo s k).2 k], k + 1) := by
  conv => lhs; unfold wordsTo
  rw [if_pos h]
theorem wordsTo_stay {s : ByteArray} {k : Nat} (h : ¬ (k = s.size ∨ (s.get! k).toNat = 32)) : wordsTo s (k + 1) = wordsTo s k := by
  conv => lhs; unfold wordsTo
  rw [if_neg h]

set_option maxHeartbeats 1000000 in
theorem l30Words_any (s : ByteArray) (w : World) (hs : s.size ≤ 6000) :
    Calls Try.prog 103 #[.string s] w fun e w' => ∃ v, e = .returned v ∧ OwnStrs w' w.heap.size 9 v (wordsTo s (s.size + 1)).1 ∧ Below w.heap.size w w' := by
  go_enter Try.func103, Try.ntmps103
  go_wp2
  go_loopw [3, 4, 5] (fun v f i wr => ∃ k : Nat, k ≤ s.size + 1 ∧ i = .int .i64 k ∧ f = .int .i64 (wordsTo s k).2 ∧ OwnStrs wr w.heap.size 9 v (wordsTo s k).1 ∧ Below w.heap.size w wr) (fun _ _ i _ => s.size + 1 - (intOf i).toNat)
  case atStart => exact ⟨0, Nat.zero_le _, rfl, rfl, OwnStrs.none_ _ _ _ (Nat.le_refl _), (Below.refl _ _).alloc (Nat.le_refl _) _⟩
  case round =>
    obtain ⟨k, hk, rfl, rfl, ⟨⟨A, c, rfl⟩, hown⟩, hbel⟩ := hrel
    have hlen := wordsTo_len s k
    have hfle := wordsTo_le s k
    have hown' : OwnStrs wr w.heap.size 9 (.slice A (wordsTo s k).1.length c) (wordsTo s k).1 := ⟨⟨_, _, rfl⟩, hown⟩
    clear hown
    by_cases hle : k ≤ s.size
    · by_cases hend : k = s.size ∨ (s.get! k).toNat = 32
      · have HW := Lib.hid (wordsTo_cut hend)
        generalize hws : (wordsTo s k).1 = ws at *
        generalize hfr : (wordsTo s k).2 = fr at *
        clear hws hfr
        by_cases hkn : ((k : Int) == (s.size : Int)) = true
        · clear hend
          go_wp2_with (at_builtin; refine wpList_app1 rfl (.tmp 23) (.tmp 28) 22 9 rfl Try.underlying22 infoStr wr w.heap.size _ ws _ rfl hown' rfl (by omega) hbel.size ?_; intro v1 w1 hown1 hb1)
          go_roundw
          case rel => exact ⟨k + 1, by omega, by go_num, by rw [HW.out]; go_num, by rw [HW.out]; exact hown1, hbel.trans hb1⟩
          case measure => simp [intOf]; omega
        · simp only [Bool.not_eq_true] at hkn
          have hlt : k < s.size := by rw [beq_eq_false_iff_ne] at hkn; omega
          have h32 : ((s[k].toNat : Int) == 32) = true := by
            rw [beq_iff_eq]
            rcases hend with h | h
            · omega
            · rw [get_bang hlt] at h; omega
          clear hend
          go_wp2_with (at_builtin; refine wpList_app1 rfl (.tmp 23) (.tmp 28) 22 9 rfl Try.underlying22 infoStr wr w.heap.size _ ws _ rfl hown' rfl (by omega) hbel.size ?_; intro v1 w1 hown1 hb1)
          go_roundw
          case rel => exact ⟨k + 1, by omega, by go_num, by rw [HW.out]; go_num, by rw [HW.out]; exact hown1, hbel.trans hb1⟩
          case measure => simp [intOf]; omega
      · have HW := Lib.hid (wordsTo_stay hend)
        have hlt : k < s.size := by omega
        have h32 : ((s[k].toNat : Int) == 32) = false := by
          rw [get_bang hlt] at hend
          rw [beq_eq_false_iff_ne]; omega
        have hkn : ((k : Int) == (s.size : Int)) = false := by rw [beq_eq_false_iff_ne]; omega
        clear hend
        generalize hws : (wordsTo s k).1 = ws at *
        generalize hfr : (wordsTo s k).2 = fr at *
        have HWS := Lib.hid hws; have HFR := Lib.hid hfr; clear hws hfr
        go_wp2
        go_roundw
        case rel => exact ⟨k + 1, by omega, by go_num, by rw [HW.out, HFR.out], by rw [HW.out, HWS.out]; exact hown', hbel⟩
        case measure => simp [intOf]; omega
    · go_wp2
      go_ret
      obtain rfl : k = s.size + 1 := by omega
      exact ⟨_, rfl, hown', hbel⟩

/-- The pieces that are not empty, among the first k. -/
theorem fullOnes_take_succ (l : List ByteArray) (k : Nat) (h : k < l.length) : fullOnes (l.take (k + 1)) = if ((l.getD k ByteArray.empty).size != 0) = true then fullOnes (l.take k) ++ [l.getD k ByteArray.empty] else fullOnes (l.take k) := by
  rw [List.take_succ_eq_append_getElem h, fullOnes_snoc]
  simp [List.getD_eq_getElem?_getD, List.getElem?_eq_getElem h]

theorem fullOnes_len (l : List ByteArray) : (fullOnes l).length ≤ l.length := List.length_filter_le _ _

theorem isEmpty_bytes {x : ByteArray} : x.toList.isEmpty = !(x.size != 0) := by
  rw [ByteArray.toList_eq]
  cases x with | mk a => cases a with | mk l => cases l <;> simp [ByteArray.size]

set_option maxHeartbeats 1000000 in
theorem l34Words_any (s : ByteArray) (w : World) (hs : s.size ≤ 6000) :
    Calls Try.prog 54 #[.string s] w fun e w' => ∃ v, e = .returned v ∧ OwnStrs w' w.heap.size 9 v (fullOnes (wordsTo s (s.size + 1)).1) ∧ Below w.heap.size w w' := by
  have hl := wordsTo_len s (s.size + 1)
  have HC := Lib.hid (fun W => l30Words_any s W hs)
  generalize (wordsTo s (s.size + 1)).1 = L at *
  go_enter Try.func54, Try.ntmps54
  go_wp2_with fail
  refine (HC.out _).mono ?_
  rintro e w1 ⟨v1, rfl, ⟨⟨A1, c1, rfl⟩, ho1⟩, hb1⟩
  have hr1 := StrR.of_own ho1
  have h0 := (OwnStrs.none_ w w.heap.size 9 (Nat.le_refl _)).below hb1
  have hbw : Below w.heap.size w w1 := ((Below.refl _ _).alloc (Nat.le_refl _) _).trans (hb1.mono (by simp))
  clear hb1 ho1
  go_wp2
  go_loopw [3, 5] (fun v i wr => ∃ k : Nat, k ≤ L.length ∧ i = .int .i64 k ∧ Grows wr w1.heap.size 9 (.slice (some ⟨w.heap.size, 0, none⟩) 0 0) v (fullOnes (L.take k)) ∧ Below w1.heap.size w1 wr) (fun _ i _ => L.length - (intOf i).toNat)
  case atStart => exact ⟨0, Nat.zero_le _, rfl, Grows.start _ _ _ _, Below.refl _ _⟩
  case round =>
    obtain ⟨k, hk, rfl, hown, hbel⟩ := hrel
    by_cases hlt : k < L.length
    · obtain ⟨b, off, rfl, _, hblt, hc⟩ := (hr1.below hbel (Nat.le_refl _)).at_ hlt
      have HF := Lib.hid (fullOnes_take_succ L k hlt)
      have hfl := fullOnes_len (L.take k)
      rw [List.length_take] at hfl
      generalize hX : L.getD k ByteArray.empty = X at *
      generalize hF : fullOnes (L.take k) = F at *
      have HF2 := Lib.hid hF; clear hX hF
      by_cases he : (X.size != 0) = true
      · have hq : X.toList.isEmpty = false := by rw [isEmpty_bytes, he]; rfl
        have hq2 : (!X.toList.isEmpty) = true := by rw [hq]; rfl
        have HE := Lib.hid he; clear he
        go_wp2_with (at_builtin; refine wpList_app1G rfl (.tmp 20) (.tmp 25) 22 9 rfl Try.underlying22 infoStr wr w1.heap.size _ _ F _ rfl hown rfl (by omega) hbel.size ?_; intro v1 w2 hown1 hb2)
        go_roundw
        case rel => exact ⟨k + 1, by omega, by go_num, by rw [HF.out, if_pos HE.out]; exact hown1, hbel.trans hb2⟩
        case measure => simp [intOf]; omega
      · have hq : X.toList.isEmpty = true := by rw [isEmpty_bytes]; simpa using he
        have hq2 : (!X.toList.isEmpty) = false := by rw [hq]; rfl
        have HE := Lib.hid he; clear he
        go_wp2
        go_roundw
        case rel => exact ⟨k + 1, by omega, by go_num, by rw [HF.out, if_neg HE.out]; exact hown, hbel⟩
        case measure => simp [intOf]; omega
    · go_wp2
      go_ret
      obtain rfl : k = L.length := by omega
      rw [List.take_length] at hown
      exact ⟨_, rfl, hown.done h0 hbel hbw.size, hbw.trans (hbel.mono hbw.size)⟩

set_option maxHeartbeats 400000 in
theorem specLineWords_any (s : ByteArray) (w : World) (hs : s.size ≤ 1048576) :
    Calls Try.prog 13 #[.string s] w fun e w' => ∃ v, e = .returned v ∧ OwnStrs w' w.heap.size 9 v (if 6000 < s.size then [] else fullOnes (wordsTo s (s.size + 1)).1) ∧ Below w.heap.size w w' := by
  by_cases hlt : 6000 < s.size
  · rw [if_pos hlt]
    go_enter Try.func13, Try.ntmps13
    go_wp2_with fail
    go_ret
    exact ⟨_, rfl, OwnStrs.none_ _ _ _ (Nat.le_refl _), (Below.refl _ _).alloc (Nat.le_refl _) _⟩
  · rw [if_neg hlt]
    go_enter Try.func13, Try.ntmps13
    go_wp2_with fail
    refine (l34Words_any s _ (by omega)).mono ?_
    rintro e w1 ⟨v1, rfl, ho1, hb1⟩
    go_wp2
    go_ret
    exact ⟨_, rfl, ho1, hb1⟩

theorem blank_pays (w : World) : PredAtRunes Try.prog 105 #[] blankP w := by
  intro W x hx hb
  unfold FnGives
  by_cases h : x = 32
  · subst h
    go_enter Try.func105, Try.ntmps105
    go_wp2
    go_ret
    exact ⟨rfl, 0, rfl⟩
  · have h2 : ((x : Int) == 32) = false := by rw [beq_eq_false_iff_ne]; omega
    have h3 : blankP x = false := by unfold blankP; rw [beq_eq_false_iff_ne]; exact h
    rw [h3]
    go_enter Try.func105, Try.ntmps105
    go_wp2
    go_ret
    exact ⟨rfl, 0, rfl⟩

set_option maxHeartbeats 400000 in
theorem wordsOf_any (s : ByteArray) (w : World) (hs : s.size ≤ 1048576) :
    Calls Try.prog 55 #[.string s] w fun e w' => ∃ v, e = .returned v ∧ OwnStrs w' w.heap.size 9 v (fullOnes (wordsTo s (s.size + 1)).1) ∧ Below w.heap.size w w' := by
  rw [← words_fields]
  have HC := Lib.hid (fun W => Try.strings_FieldsFunc_runes 105 #[] (enters_of Try.func105 (by kernel_rfl) rfl) blankP s W (by omega) (blank_pays _))
  generalize Lib.goFieldsP blankP s = L at *
  go_enter Try.func55, Try.ntmps55
  go_wp2_with fail
  refine (HC.out _).mono ?_
  rintro e w1 ⟨A, rfl, _, ho, hb⟩
  go_wp2
  go_ret
  exact ⟨_, rfl, ⟨⟨_, _, rfl⟩, ho⟩, hb⟩

set_option maxHeartbeats 400000 in
theorem implLineWords_any (s : ByteArray) (w : World) (hs : s.size ≤ 1048576) :
    Calls Try.prog 14 #[.string s] w fun e w' => ∃ v, e = .returned v ∧ OwnStrs w' w.heap.size 9 v (if 6000 < s.size then [] else fullOnes (wordsTo s (s.size + 1)).1) ∧ Below w.heap.size w w' := by
  by_cases hlt : 6000 < s.size
  · rw [if_pos hlt]
    go_enter Try.func14, Try.ntmps14
    go_wp2_with fail
    go_ret
    exact ⟨_, rfl, OwnStrs.nil_ _ _ _, Below.refl _ _⟩
  · rw [if_neg hlt]
    go_enter Try.func14, Try.ntmps14
    go_wp2_with fail
    refine (wordsOf_any s _ (by omega)).mono ?_
    rintro e w1 ⟨v1, rfl, ho1, hb1⟩
    go_wp2
    go_ret
    exact ⟨_, rfl, ho1, hb1⟩

end Go.Proofs.Ytcfmgmbolnifgaa
