/- Names: both NameOk compute one plain function. -/
import Derived.Test.YtlodlplfmpikjaaGreatProg
import Derived.Test.YtlodlplfmpikjaaGreatMem
namespace Go.Proofs.YtlodlplfmpikjaaGreat
open Go.RowKit

def letterB (c : Nat) : Bool := decide ((97 ≤ c ∧ c ≤ 122) ∨ (65 ≤ c ∧ c ≤ 90))
def digitB (c : Nat) : Bool := decide (48 ≤ c ∧ c ≤ 57)
/-- A byte that may stand at place j of a name. -/
def nameCh (j c : Nat) : Bool := letterB c || (decide (j = 0) && decide (c = 37)) || (decide (j ≠ 0) && digitB c)
def nameTo (s : ByteArray) (k : Nat) : Bool := (List.range k).all fun j => nameCh j (s.get! j).toNat
def nameB (s : ByteArray) : Bool := decide (1 ≤ s.size) && decide (s.size ≤ 8) && nameTo s s.size

theorem byte_at {s : ByteArray} {k : Nat} (h : k < s.size) : s.get! k = s[k] := by
  show s.data[k]! = s.data[k]
  exact getElem!_pos s.data k h

theorem nameTo_succ (s : ByteArray) (k : Nat) : nameTo s (k + 1) = (nameTo s k && nameCh k (s.get! k).toNat) := by
  unfold nameTo
  rw [List.range_succ, List.all_append]
  simp

theorem nameTo_false {s : ByteArray} {k n : Nat} (hk : k < n) (h : nameCh k (s.get! k).toNat = false) : nameTo s n = false := by
  unfold nameTo
  rw [List.all_eq_false]
  exact ⟨k, by simpa using hk, by simp [h]⟩

theorem byte_le (c : UInt8) : c.toNat ≤ 255 := by have := c.toNat_lt; omega

theorem nameTo_one (s : ByteArray) : nameTo s 1 = nameCh 0 (s.get! 0).toNat := by simp [nameTo, List.range_succ]

end Go.Proofs.YtlodlplfmpikjaaGreat
