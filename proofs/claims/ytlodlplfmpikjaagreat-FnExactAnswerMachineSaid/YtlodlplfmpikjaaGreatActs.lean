/- Walks of the small predicates: ranges, lists of texts, lists of numbers that rise. -/
import Derived.Test.YtlodlplfmpikjaaGreatSlices
import Derived.Test.YtlodlplfmpikjaaGreatNames
import Derived.Test.YtlodlplfmpikjaaGreatShelfC
namespace Go.Proofs.YtlodlplfmpikjaaGreat
open Go.RowKit

def inB (a lo hi : Int) : Bool := decide (lo ≤ a ∧ a ≤ hi)

theorem inB_true {a lo hi : Int} (h1 : lo ≤ a) (h2 : a ≤ hi) : inB a lo hi = true := by simp [inB, h1, h2]
theorem inB_low {a lo hi : Int} (h : a < lo) : inB a lo hi = false := by simp [inB]; omega
theorem inB_high {a lo hi : Int} (h : hi < a) : inB a lo hi = false := by simp [inB]; omega

theorem within_any (a lo hi : Int) (w : World) : Calls Tryz.prog 29 #[.int .i64 a, .int .i64 lo, .int .i64 hi] w fun e w' => e = .returned (.bool (inB a lo hi)) ∧ w = w' := by
  by_cases h1 : lo ≤ a
  · by_cases h2 : a ≤ hi
    · rw [inB_true h1 h2]
      go_enter Tryz.func29, Tryz.ntmps29
      go_wp2
      go_ret
      exact ⟨by simp, rfl⟩
    · rw [inB_high (by omega)]
      go_enter Tryz.func29, Tryz.ntmps29
      go_wp2
      go_ret
      exact ⟨by simp, rfl⟩
  · rw [inB_low (by omega)]
    go_enter Tryz.func29, Tryz.ntmps29
    go_wp2
    go_ret
    exact ⟨by simp, rfl⟩

theorem l00In_any (a lo hi : Int) (w : World) : Calls Tryz.prog 18 #[.int .i64 a, .int .i64 lo, .int .i64 hi] w fun e w' => e = .returned (.bool (inB a lo hi)) ∧ w = w' := by
  by_cases h1 : lo ≤ a
  · by_cases h2 : a ≤ hi
    · rw [inB_true h1 h2]
      go_enter Tryz.func18, Tryz.ntmps18
      go_wp2
      go_ret
      exact ⟨by simp, rfl⟩
    · rw [inB_high (by omega)]
      go_enter Tryz.func18, Tryz.ntmps18
      go_wp2
      go_ret
      exact ⟨by simp, rfl⟩
  · rw [inB_low (by omega)]
    go_enter Tryz.func18, Tryz.ntmps18
    go_wp2
    go_ret
    exact ⟨by simp, rfl⟩

/-- No text of the list is longer than a value. -/
def shortB (x : ByteArray) : Bool := decide (x.size ≤ 64)
def textsB (most : Nat) (l : List ByteArray) : Bool := decide (l.length ≤ most) && l.all shortB

theorem all_take_succ {α : Type} (p : α → Bool) (d : α) (l : List α) (k : Nat) (h : k < l.length) : (l.take (k + 1)).all p = ((l.take k).all p && p (l.getD k d)) := by
  rw [List.take_succ_eq_append_getElem h, List.all_append, List.getD_eq_getElem?_getD, List.getElem?_eq_getElem h]
  simp

theorem all_false_at {α : Type} (p : α → Bool) (d : α) (l : List α) (k : Nat) (h : k < l.length) (hp : p (l.getD k d) = false) : l.all p = false := by
  rw [List.all_eq_false]
  refine ⟨l.getD k d, ?_, by rw [hp]; simp⟩
  rw [List.getD_eq_getElem?_getD, List.getElem?_eq_getElem h]
  exact List.getElem_mem _

theorem long_pays (w : World) : PredAt Tryz.prog 68 #[] Value.string (fun x : ByteArray => decide (64 < x.size)) w := by
  intro W x hb
  unfold FnGives
  by_cases h : 64 < x.size
  · go_enter Tryz.func68, Tryz.ntmps68
    go_wp2
    go_ret
    exact ⟨by simp [h]; omega, 0, rfl⟩
  · go_enter Tryz.func68, Tryz.ntmps68
    go_wp2
    go_ret
    exact ⟨by simp [h]; omega, 0, rfl⟩

theorem any_long (xs : List ByteArray) : (xs.any fun x => decide (64 < x.size)) = !xs.all shortB := by
  induction xs with
  | nil => rfl
  | cons x xs ih =>
    simp only [List.any_cons, List.all_cons, ih, Bool.not_and]
    congr 1
    unfold shortB
    rw [Bool.eq_iff_iff]
    simp

set_option maxHeartbeats 400000 in
theorem long_any (A : Option Addr) (n c lo hi : Nat) (xs : List ByteArray) (w : World) (ha : StrR w lo hi A n xs) (hn : n ≤ 1048576) :
    Calls Tryz.prog 28 #[.slice A n c] w fun e w' => e = .returned (.bool (!xs.all shortB)) ∧ ∃ q, w' = w.drewN q := by
  have hl := ha.1
  subst hl
  by_cases h0 : 0 < xs.length
  · obtain ⟨b, off, rfl, _, _, hc⟩ := ha.2 h0
    have HC := Lib.hid (fun (W : World) (hW : ∀ j, j < xs.length → W.cell? ⟨b, off + j, none⟩ = some (Value.string (xs.getD j ByteArray.empty))) =>
      Tryz.slices_ContainsFunc Value.string (fun x : ByteArray => decide (64 < x.size)) 68 #[] (enters_of Tryz.func68 (by kernel_rfl) rfl) b off xs.length c xs W (long_pays W) (Nat.le_refl _) (by omega)
        (fun j hj => by rw [hW j hj, List.getD_eq_getElem?_getD, List.getElem?_eq_getElem hj]; simp [hj]))
    clear ha
    have HH := Lib.hid hc; clear hc
    go_enter Tryz.func28, Tryz.ntmps28
    go_wp2_with fail
    refine (HC.out _ HH.out).mono ?_
    rintro e w1 ⟨rfl, q, rfl⟩
    go_wp2
    go_ret
    refine ⟨?_, q, rfl⟩
    rw [← any_long]
    rfl
  · have hx : xs = [] := List.eq_nil_of_length_eq_zero (by omega)
    subst hx
    have HC := Lib.hid (Tryz.slices_ContainsFunc_empty (α := ByteArray) A c (.func (.func 68) #[] #[]) w)
    clear ha h0
    go_enter Tryz.func28, Tryz.ntmps28
    go_wp2_with fail
    refine HC.out.mono ?_
    rintro e w1 ⟨rfl, rfl⟩
    go_wp2
    go_ret
    exact ⟨rfl, 0, rfl⟩

/-- The first k numbers rise. -/
def riseTo (l : List Int) (k : Nat) : Bool := (List.range (k - 1)).all fun j => decide (l.getD j 0 < l.getD (j + 1) 0)
def keepB (l : List Int) : Bool := decide (l.length ≤ 400) && riseTo l l.length && decide (l.length = 0 ∨ 0 ≤ l.getD 0 0)

theorem riseTo_succ (l : List Int) (k : Nat) : riseTo l (k + 2) = (riseTo l (k + 1) && decide (l.getD k 0 < l.getD (k + 1) 0)) := by
  unfold riseTo
  rw [show k + 2 - 1 = k + 1 by omega, show k + 1 - 1 = k by omega, List.range_succ, List.all_append]
  simp

theorem riseTo_false {l : List Int} {k n : Nat} (hk : k + 1 < n) (h : ¬ l.getD k 0 < l.getD (k + 1) 0) : riseTo l n = false := by
  unfold riseTo
  rw [List.all_eq_false]
  exact ⟨k, by simp; omega, by simpa using h⟩

end Go.Proofs.YtlodlplfmpikjaaGreat
