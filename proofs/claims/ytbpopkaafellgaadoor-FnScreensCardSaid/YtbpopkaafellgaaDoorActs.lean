/- Walks of the small predicates: ranges, lists of texts, lists of numbers that rise. -/
import Derived.Test.YtbpopkaafellgaaDoorSlices
import Derived.Test.YtbpopkaafellgaaDoorNames
import Derived.Test.YtbpopkaafellgaaDoorShelfC
namespace Go.Proofs.YtbpopkaafellgaaDoor
open Go.RowKit

def inB (a lo hi : Int) : Bool := decide (lo ≤ a ∧ a ≤ hi)

theorem inB_true {a lo hi : Int} (h1 : lo ≤ a) (h2 : a ≤ hi) : inB a lo hi = true := by simp [inB, h1, h2]
theorem inB_low {a lo hi : Int} (h : a < lo) : inB a lo hi = false := by simp [inB]; omega
theorem inB_high {a lo hi : Int} (h : hi < a) : inB a lo hi = false := by simp [inB]; omega

theorem within_any (a lo hi : Int) (w : World) : Calls Tryd.prog 27 #[.int .i64 a, .int .i64 lo, .int .i64 hi] w fun e w' => e = .returned (.bool (inB a lo hi)) ∧ w = w' := by
  by_cases h1 : lo ≤ a
  · by_cases h2 : a ≤ hi
    · rw [inB_true h1 h2]
      go_enter Tryd.func27, Tryd.ntmps27
      go_wp2
      go_ret
      exact ⟨by simp, rfl⟩
    · rw [inB_high (by omega)]
      go_enter Tryd.func27, Tryd.ntmps27
      go_wp2
      go_ret
      exact ⟨by simp, rfl⟩
  · rw [inB_low (by omega)]
    go_enter Tryd.func27, Tryd.ntmps27
    go_wp2
    go_ret
    exact ⟨by simp, rfl⟩

theorem l00In_any (a lo hi : Int) (w : World) : Calls Tryd.prog 15 #[.int .i64 a, .int .i64 lo, .int .i64 hi] w fun e w' => e = .returned (.bool (inB a lo hi)) ∧ w = w' := by
  by_cases h1 : lo ≤ a
  · by_cases h2 : a ≤ hi
    · rw [inB_true h1 h2]
      go_enter Tryd.func15, Tryd.ntmps15
      go_wp2
      go_ret
      exact ⟨by simp, rfl⟩
    · rw [inB_high (by omega)]
      go_enter Tryd.func15, Tryd.ntmps15
      go_wp2
      go_ret
      exact ⟨by simp, rfl⟩
  · rw [inB_low (by omega)]
    go_enter Tryd.func15, Tryd.ntmps15
    go_wp2
    go_ret
    exact ⟨by simp, rfl⟩

/-- No text of the list is longer than a value. -/
def shortB (x : ByteArray) : Bool := decide (x.size ≤ 64)
def textsB (most : Nat) (l : List ByteArray) : Bool := decide (l.length ≤ most) && l.all shortB

theorem all_take_succ {α : Type} (p : α → Bool) (d : α) (l : List α) (k : Nat) (h : k < l.length) : (l.take (k + 1)).all p = ((l.take k).all p && p (l.getD k d)) := by
  rw [List.take_succ_eq_append_getElem h, List.all_append, List.getD_eq_getElem?_getD, List.getElem?_eq_getElem h]
  simp

theorem all_false_at {α : Type} (p : α → Bool) (d : α) (l : List α) (k : Nat) (h : k < l.length) (hp : p (l.getD k d) = false) : l.all p = false := by
  rw [List.all_eq_false]
  refine ⟨l.getD k d, ?_, by rw [hp]; simp⟩
  rw [List.getD_eq_getElem?_getD, List.getElem?_eq_getElem h]
  exact List.getElem_mem _

theorem any_long (xs : List ByteArray) : (xs.any fun x => decide (64 < x.size)) = !xs.all shortB := by
  induction xs with
  | nil => rfl
  | cons x xs ih =>
    simp only [List.any_cons, List.all_cons, ih, Bool.not_and]
    congr 1
    unfold shortB
    rw [Bool.eq_iff_iff]
    simp

/-- The first k numbers rise. -/
def riseTo (l : List Int) (k : Nat) : Bool := (List.range (k - 1)).all fun j => decide (l.getD j 0 < l.getD (j + 1) 0)
def keepB (l : List Int) : Bool := decide (l.length ≤ 400) && riseTo l l.length && decide (l.length = 0 ∨ 0 ≤ l.getD 0 0)

theorem riseTo_succ (l : List Int) (k : Nat) : riseTo l (k + 2) = (riseTo l (k + 1) && decide (l.getD k 0 < l.getD (k + 1) 0)) := by
  unfold riseTo
  rw [show k + 2 - 1 = k + 1 by omega, show k + 1 - 1 = k by omega, List.range_succ, List.all_append]
  simp

theorem riseTo_false {l : List Int} {k n : Nat} (hk : k + 1 < n) (h : ¬ l.getD k 0 < l.getD (k + 1) 0) : riseTo l n = false := by
  unfold riseTo
  rw [List.all_eq_false]
  exact ⟨k, by simp; omega, by simpa using h⟩

end Go.Proofs.YtbpopkaafellgaaDoor
