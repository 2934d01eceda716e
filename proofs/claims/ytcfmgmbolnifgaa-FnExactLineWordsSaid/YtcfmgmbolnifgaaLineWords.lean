/- FnExactLineWords returns true for every text: the program's LineWords gives what the reference's gives, in memory of its own. No condition. -/
import Derived.Test.YtcfmgmbolnifgaaWords
namespace Go.Proofs.Ytcfmgmbolnifgaa
open Go.RowKit

set_option maxHeartbeats 1000000 in
theorem law_LineWords (s : ByteArray) (w : World) (hs : s.size ≤ 9223372036854775807) :
    Calls Try.prog 3 #[.string s] w fun e w' => e = .returned (.bool true) ∧ Below w.heap.size w w' := by
  by_cases hlt : 1048576 < s.size
  · go_enter Try.func3, Try.ntmps3
    go_wp2_with fail
    go_ret
    exact ⟨rfl, Below.refl _ _⟩
  · have hle : s.size ≤ 1048576 := by omega
    have HS := Lib.hid (fun W => specLineWords_any s W hle)
    have HI := Lib.hid (fun W => implLineWords_any s W hle)
    have hlen : (if 6000 < s.size then [] else fullOnes (wordsTo s (s.size + 1)).1).length ≤ 6001 := by
      split
      · simp
      · have h1 := fullOnes_len (wordsTo s (s.size + 1)).1
        have h2 := wordsTo_len s (s.size + 1)
        omega
    generalize (if 6000 < s.size then [] else fullOnes (wordsTo s (s.size + 1)).1) = L at *
    clear hlt
    go_enter Try.func3, Try.ntmps3
    go_wp2_with fail
    refine (HS.out _).mono ?_
    rintro e w1 ⟨v1, rfl, ⟨⟨A1, c1, rfl⟩, ho1⟩, hb1⟩
    go_wp2_with fail
    refine (HI.out _).mono ?_
    rintro e w2 ⟨v2, rfl, ⟨⟨A2, c2, rfl⟩, ho2⟩, hb2⟩
    have r1 := (StrR.of_own ho1).below hb2 (Nat.le_refl _)
    go_wp2_with fail
    refine (eqStringS_b _ _ _ _ _ _ _ _ _ _ L L _ (StrR.of_own ho2) r1 (by omega) (by omega)).mono ?_
    rintro e w3 ⟨rfl, hb3⟩
    rw [decide_eq_true rfl]
    have ho3 := own_below ho2 hb3
    have r3 := r1.below hb3 hb2.size
    have b3 : Below w1.heap.size w1 w3 := hb2.trans (hb3.mono hb2.size)
    clear hb2 hb3 ho1 ho2 r1
    go_wp2_with fail
    refine (markStringS_one w1.heap.size _ _ _ L _ ho3 (by omega)).mono ?_
    rintro e w4 ⟨rfl, ho4, hg4⟩
    have hrow : ∀ g, (Value.slice A2 L.length c2).ownBlock = some g → w1.heap.size ≤ g := fun g hg => (ho3.lt g hg).1
    have r4 := r3.grown hg4 b3.size hrow
    have b4 := b3.trans (Below.of_grown hg4 b3.size hrow)
    clear hg4 hrow ho3 r3 b3
    have g4 := StrR.of_own ho4
    have hq1 : ¬ (((1 + L.length : Nat) : Int) < 0) := by omega
    have hq2 : (((1 + L.length : Nat) : Int) != ((1 + L.length : Nat) : Int)) = false := by simp
    go_wp2_with fail
    refine (heldStringS_one _ _ _ _ _ _ g4 (Nat.le_refl _) (by omega)).mono ?_
    rintro e w5 ⟨rfl, hb5⟩
    have g5 := g4.below hb5 (Nat.le_refl _)
    have r5 := r4.below hb5 b4.size
    have b5 := b4.trans (hb5.mono b4.size)
    have s5 := hb5.size
    clear hb5 b4 r4 g4 ho4
    go_wp2_with fail
    refine (HI.out _).mono ?_
    rintro e w6 ⟨v6, rfl, ⟨⟨A6, c6, rfl⟩, ho6⟩, hb6⟩
    have g6 := g5.below hb6 s5
    have r6 := r5.below hb6 b5.size
    have b6 := b5.trans (hb6.mono b5.size)
    have s6 := hb6.size
    clear hb6 b5 r5 g5
    go_wp2_with fail
    refine (eqStringS_b _ _ _ _ _ _ _ _ _ _ L L _ (StrR.of_own ho6) r6 (by omega) (by omega)).mono ?_
    rintro e w7 ⟨rfl, hb7⟩
    rw [decide_eq_true rfl]
    have g7 := g6.below hb7 (by omega)
    have b7 := b6.trans (hb7.mono b6.size)
    have s7 := hb7.size
    clear hb7 b6 r6 g6 ho6
    go_wp2_with fail
    refine (heldStringS_one _ _ _ _ _ _ g7 (by omega) (by omega)).mono ?_
    rintro e w8 ⟨rfl, hb8⟩
    have b8 := b7.trans (hb8.mono b7.size)
    clear hb8 b7 g7
    go_wp2_with fail
    go_ret
    exact ⟨rfl, hb1.trans (b8.mono hb1.size)⟩

end Go.Proofs.Ytcfmgmbolnifgaa
