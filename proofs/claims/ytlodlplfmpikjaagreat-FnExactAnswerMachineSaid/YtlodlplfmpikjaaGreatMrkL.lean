/- Marks of an operation of two sites: rows of texts and of numbers. -/
import Derived.Test.YtlodlplfmpikjaaGreatSlices
import Derived.Test.YtlodlplfmpikjaaGreatLaw
namespace Go.Proofs.YtlodlplfmpikjaaGreat
open Go.RowKit

def marksI (k n : Nat) : List Int := (List.range n).map fun i => ((k + i : Nat) : Int)
def markedI (k j : Nat) (xs : List Int) : List Int := marksI k j ++ xs.drop j
theorem marksI_len (k n : Nat) : (marksI k n).length = n := by simp [marksI]
theorem markedI_zero (k : Nat) (xs : List Int) : markedI k 0 xs = xs := by simp [markedI, marksI]
theorem markedI_all (k n : Nat) (xs : List Int) (h : xs.length = n) : markedI k n xs = marksI k n := by simp [markedI, ← h]
theorem markedI_succ (k j : Nat) (xs : List Int) (h : j < xs.length) : (markedI k j xs).set j ((k + j : Nat) : Int) = markedI k (j + 1) xs := by
  unfold markedI
  rw [List.set_append, if_neg (by rw [marksI_len]; omega), marksI_len, Nat.sub_self, List.drop_eq_getElem_cons h, List.set_cons_zero]
  simp [marksI, List.range_succ]

end Go.Proofs.YtlodlplfmpikjaaGreat
