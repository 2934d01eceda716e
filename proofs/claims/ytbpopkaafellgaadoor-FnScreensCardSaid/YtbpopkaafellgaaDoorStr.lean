/- Walks of the helpers on slices of strings: eqStringS, markText, markStringS, heldStringS. -/
import Derived.Test.YtbpopkaafellgaaDoorProg
import Derived.Test.YtbpopkaafellgaaDoorMem
namespace Go.Proofs.YtbpopkaafellgaaDoor
open Go.RowKit

theorem take_eq_succ {xs ys : List ByteArray} {k n : Nat} (hx : xs.length = n) (hy : ys.length = n) (hk : k < n) (h : xs.take k = ys.take k) (he : xs.getD k ByteArray.empty = ys.getD k ByteArray.empty) :
    xs.take (k + 1) = ys.take (k + 1) := by
  rw [List.take_succ_eq_append_getElem (by omega), List.take_succ_eq_append_getElem (by omega), h]
  simp only [List.getD_eq_getElem?_getD, List.getElem?_eq_getElem (show k < xs.length by omega), List.getElem?_eq_getElem (show k < ys.length by omega), Option.getD_some] at he
  rw [he]

theorem ne_of_getD {xs ys : List ByteArray} {k : Nat} (he : xs.getD k ByteArray.empty ≠ ys.getD k ByteArray.empty) : xs ≠ ys := fun h => he (by rw [h])

/-- The digits of k ahead of a text, as the marks' loop puts them. -/
def digitsOn : Nat → Nat → ByteArray → ByteArray
  | 0, _, out => out
  | f + 1, k, out => if 0 < k then digitsOn f (k / 10) (⟨#[48 + UInt8.ofNat (k % 10)]⟩ ++ out) else out

def markT (k : Nat) : ByteArray := ⟨#[109]⟩ ++ digitsOn k k ByteArray.empty

theorem digits_step {f j k : Nat} {out : ByteArray} (hj : 0 < j) (hf : j ≤ f) (h : digitsOn f j out = digitsOn k k ByteArray.empty) :
    ∃ g, f = g + 1 ∧ digitsOn g (j / 10) (⟨#[48 + UInt8.ofNat (j % 10)]⟩ ++ out) = digitsOn k k ByteArray.empty := by
  obtain ⟨g, rfl⟩ : ∃ g, f = g + 1 := ⟨f - 1, by omega⟩
  refine ⟨g, rfl, ?_⟩
  rw [← h]
  conv => rhs; unfold digitsOn
  rw [if_pos hj]

theorem digits_end {f k : Nat} {out : ByteArray} (h : digitsOn f 0 out = digitsOn k k ByteArray.empty) : out = digitsOn k k ByteArray.empty := by
  rw [← h]
  cases f <;> simp [digitsOn]

def marksFrom (k n : Nat) : List ByteArray := (List.range n).map fun i => markT (k + i)
def markedTo (k j : Nat) (xs : List ByteArray) : List ByteArray := marksFrom k j ++ xs.drop j

theorem marksFrom_len (k n : Nat) : (marksFrom k n).length = n := by simp [marksFrom]
theorem markedTo_zero (k : Nat) (xs : List ByteArray) : markedTo k 0 xs = xs := by simp [markedTo, marksFrom]
theorem markedTo_all (k n : Nat) (xs : List ByteArray) (h : xs.length = n) : markedTo k n xs = marksFrom k n := by simp [markedTo, ← h]
theorem markedTo_succ (k j : Nat) (xs : List ByteArray) (h : j < xs.length) : (markedTo k j xs).set j (markT (k + j)) = markedTo k (j + 1) xs := by
  unfold markedTo
  rw [List.set_append, if_neg (by rw [marksFrom_len]; omega), marksFrom_len, Nat.sub_self, List.drop_eq_getElem_cons h, List.set_cons_zero]
  simp [marksFrom, List.range_succ]

end Go.Proofs.YtbpopkaafellgaaDoor
