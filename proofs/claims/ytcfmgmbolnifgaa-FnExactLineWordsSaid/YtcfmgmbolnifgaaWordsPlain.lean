/- Plain lists: the pieces of a text between blanks, the empty ones left out, are what strings.FieldsFunc gives at the predicate 'is a blank'. No program in sight. -/
import Derived.Lib.FieldsP
namespace Go.Proofs.Ytcfmgmbolnifgaa
open Go.Lib

/-- The pieces between blanks among the first k bytes, and where the piece at hand begins. -/
def wordsTo (s : ByteArray) : Nat → List ByteArray × Nat
  | 0 => ([], 0)
  | k + 1 => if k = s.size ∨ (s.get! k).toNat = 32 then ((wordsTo s k).1 ++ [s.extract (wordsTo s k).2 k], k + 1) else wordsTo s k

/-- What is left of the pieces when the empty ones are dropped. -/
def fullOnes (l : List ByteArray) : List ByteArray := l.filter fun b => b.size != 0

def blankP (c : Nat) : Bool := c == 32

theorem wordsTo_le (s : ByteArray) : ∀ k, (wordsTo s k).2 ≤ k
  | 0 => Nat.le_refl _
  | k + 1 => by
    unfold wordsTo
    split
    · exact Nat.le_refl _
    · exact Nat.le_succ_of_le (wordsTo_le s k)

theorem wordsTo_len (s : ByteArray) : ∀ k, (wordsTo s k).1.length ≤ k
  | 0 => Nat.le_refl _
  | k + 1 => by
    have := wordsTo_len s k
    unfold wordsTo
    split
    · simp; omega
    · omega

/-- Bytes that are no blanks move nothing. -/
theorem wordsTo_skip (s : ByteArray) (k : Nat) : ∀ n, k + n ≤ s.size → (∀ j, j < n → (s.get! (k + j)).toNat ≠ 32) → wordsTo s (k + n) = wordsTo s k
  | 0, _, _ => rfl
  | n + 1, h, hb => by
    have ih := wordsTo_skip s k n (by omega) (fun j hj => hb j (by omega))
    have hs : wordsTo s ((k + n) + 1) = wordsTo s (k + n) := by
      conv => lhs; unfold wordsTo
      rw [if_neg]
      intro hc
      rcases hc with hc | hc
      · omega
      · exact hb n (by omega) hc
    exact hs.trans ih

theorem decode_facts (s : ByteArray) (i : Nat) (hi : i < s.size) :
    ((s.get! i).toNat = 32 ∧ Utf8.decode s i = (32, 1)) ∨
    ((Utf8.decode s i).1 ≠ 32 ∧ 1 ≤ (Utf8.decode s i).2 ∧ i + (Utf8.decode s i).2 ≤ s.size ∧ ∀ j, j < (Utf8.decode s i).2 → (s.get! (i + j)).toNat ≠ 32) := by
  have key : ∀ (c n : Nat), c ≠ 32 → 1 ≤ n → i + n ≤ s.size → (∀ j, j < n → (s.get! (i + j)).toNat ≠ 32) →
      ((c, n).1 ≠ 32 ∧ 1 ≤ (c, n).2 ∧ i + (c, n).2 ≤ s.size ∧ ∀ j, j < (c, n).2 → (s.get! (i + j)).toNat ≠ 32) := fun c n a b d e => ⟨a, b, d, e⟩
  unfold Utf8.decode
  simp only [Nat.add_zero]
  by_cases h0 : (s.get! i).toNat < 128
  · rw [if_pos h0]
    by_cases h1 : (s.get! i).toNat = 32
    · left; exact ⟨h1, by rw [h1]⟩
    · right
      refine key _ _ h1 (by omega) (by omega) ?_
      intro j hj
      obtain rfl : j = 0 := by omega
      exact h1
  · rw [if_neg h0]
    right
    have one : ∀ j, j < 1 → (s.get! (i + j)).toNat ≠ 32 := by
      intro j hj
      obtain rfl : j = 0 := by omega
      show (s.get! i).toNat ≠ 32
      omega
    have err : Utf8.runeError ≠ 32 := by decide
    split
    · rename_i h2
      simp only [Bool.and_eq_true, beq_iff_eq, decide_eq_true_eq] at h2
      split
      · refine key _ _ (by omega) (by omega) (by omega) ?_
        intro j hj
        have hj' : j = 0 ∨ j = 1 := by omega
        rcases hj' with rfl | rfl
        · show (s.get! i).toNat ≠ 32; omega
        · omega
      · exact key _ _ err (by omega) (by omega) one
    · split
      · rename_i h2
        simp only [Bool.and_eq_true, beq_iff_eq, decide_eq_true_eq] at h2
        split
        · rename_i h3
          simp only [Bool.and_eq_true, decide_eq_true_eq, ge_iff_le] at h3
          refine key _ _ (by omega) (by omega) (by omega) ?_
          intro j hj
          have hj' : j = 0 ∨ j = 1 ∨ j = 2 := by omega
          rcases hj' with rfl | rfl | rfl
          · show (s.get! i).toNat ≠ 32; omega
          · omega
          · omega
        · exact key _ _ err (by omega) (by omega) one
      · split
        · rename_i h2
          simp only [Bool.and_eq_true, beq_iff_eq, decide_eq_true_eq] at h2
          split
          · rename_i h3
            simp only [Bool.and_eq_true, decide_eq_true_eq, ge_iff_le] at h3
            refine key _ _ (by omega) (by omega) (by omega) ?_
            intro j hj
            have hj' : j = 0 ∨ j = 1 ∨ j = 2 ∨ j = 3 := by omega
            rcases hj' with rfl | rfl | rfl | rfl
            · show (s.get! i).toNat ≠ 32; omega
            · omega
            · omega
            · omega
          · exact key _ _ err (by omega) (by omega) one
        · exact key _ _ err (by omega) (by omega) one

theorem size_extract_pos {s : ByteArray} {a b : Nat} (h : a < b) (hb : b ≤ s.size) : ((s.extract a b).size != 0) = true := by
  simp only [ByteArray.size_extract, bne_iff_ne, ne_eq]
  omega

theorem size_extract_none (s : ByteArray) (a : Nat) : ((s.extract a a).size != 0) = false := by
  simp only [ByteArray.size_extract, bne_eq_false_iff_eq]
  omega

theorem fullOnes_snoc (l : List ByteArray) (b : ByteArray) : fullOnes (l ++ [b]) = if (b.size != 0) = true then fullOnes l ++ [b] else fullOnes l := by
  unfold fullOnes
  rw [List.filter_append]
  by_cases h : (b.size != 0) = true
  · rw [if_pos h]; simp [List.filter_cons, h]
  · rw [if_neg h]
    simp only [Bool.not_eq_true] at h
    simp [List.filter_cons, h]

/-- What one pass over the runes holds at a rune's beginning. -/
def SpanRel (s : ByteArray) (pos : Nat) (st : Option Nat) (acc : List (Nat × Nat)) : Prop :=
  (acc.map fun x => s.extract x.1 x.2) = fullOnes (wordsTo s pos).1 ∧
  (match st with
   | none => (wordsTo s pos).2 = pos
   | some a => (wordsTo s pos).2 = a ∧ a < pos)

theorem spans_rel (s : ByteArray) : ∀ (f pos : Nat) (st : Option Nat) (acc : List (Nat × Nat)), s.size ≤ pos + f → pos ≤ s.size → SpanRel s pos st acc →
    SpanRel s s.size (spansFromP blankP s f pos st acc).2 (spansFromP blankP s f pos st acc).1
  | 0, pos, st, acc, hf, hp, h => by
    obtain rfl : pos = s.size := by omega
    exact h
  | f + 1, pos, st, acc, hf, hp, h => by
    unfold spansFromP
    by_cases hlt : pos < s.size
    · rw [if_pos hlt]
      rcases decode_facts s pos hlt with ⟨hb, hd⟩ | ⟨hc, hn, hle, hj⟩
      · rw [hd]
        have hp1 : blankP 32 = true := rfl
        simp only [hp1, if_true]
        have hw : wordsTo s (pos + 1) = ((wordsTo s pos).1 ++ [s.extract (wordsTo s pos).2 pos], pos + 1) := by
          conv => lhs; unfold wordsTo
          rw [if_pos (Or.inr hb)]
        cases st with
        | none =>
          refine spans_rel s f (pos + 1) none acc (by omega) (by omega) ⟨?_, ?_⟩
          · rw [hw, fullOnes_snoc, h.2, size_extract_none]
            exact h.1
          · rw [hw]
        | some a =>
          refine spans_rel s f (pos + 1) none (acc ++ [(a, pos)]) (by omega) (by omega) ⟨?_, ?_⟩
          · rw [hw, fullOnes_snoc, h.2.1, if_pos (size_extract_pos h.2.2 hp), List.map_append, h.1]
            rfl
          · rw [hw]
      · have hp0 : blankP (Utf8.decode s pos).1 = false := by
          unfold blankP
          rw [beq_eq_false_iff_ne]
          exact hc
        rw [hp0]
        simp only [Bool.false_eq_true, if_false]
        have hw := wordsTo_skip s pos (Utf8.decode s pos).2 hle hj
        cases st with
        | none =>
          refine spans_rel s f _ (some pos) acc (by omega) hle ⟨?_, ?_⟩
          · rw [hw]; exact h.1
          · show _ ∧ _
            rw [hw]; exact ⟨h.2, by omega⟩
        | some a =>
          refine spans_rel s f _ (some a) acc (by omega) hle ⟨?_, ?_⟩
          · rw [hw]; exact h.1
          · show _ ∧ _
            rw [hw]; exact ⟨h.2.1, by have := h.2.2; omega⟩
    · rw [if_neg hlt]
      obtain rfl : pos = s.size := by omega
      exact h

/-- THE PLAIN LAW: dropping the empty pieces between blanks gives the fields. -/
theorem words_fields (s : ByteArray) : goFieldsP blankP s = fullOnes (wordsTo s (s.size + 1)).1 := by
  have h := spans_rel s s.size 0 none [] (by omega) (by omega) ⟨rfl, rfl⟩
  unfold goFieldsP spansOfP closeSpans
  have hw : wordsTo s (s.size + 1) = ((wordsTo s s.size).1 ++ [s.extract (wordsTo s s.size).2 s.size], s.size + 1) := by
    conv => lhs; unfold wordsTo
    rw [if_pos (Or.inl rfl)]
  generalize spansFromP blankP s s.size 0 none [] = r at *
  obtain ⟨acc, st⟩ := r
  rw [hw, fullOnes_snoc]
  cases st with
  | none =>
    have h2 : (wordsTo s s.size).2 = s.size := h.2
    rw [h2, size_extract_none]
    exact h.1
  | some a =>
    have h2 : (wordsTo s s.size).2 = a ∧ a < s.size := h.2
    rw [h2.1, if_pos (size_extract_pos h2.2 (Nat.le_refl _))]
    show List.map _ (acc ++ [(a, s.size)]) = _
    rw [List.map_append, h.1]
    rfl

end Go.Proofs.Ytcfmgmbolnifgaa
