/- Walks of the helpers on slices of strings: eqStringS, markText, markStringS, heldStringS. -/
import Derived.Test.YtlhcljhfhkemiaaGreatDoorProg
import Derived.Test.YtlhcljhfhkemiaaGreatDoorMem
namespace Go.Proofs.YtlhcljhfhkemiaaGreatDoor
open Go.RowKit

theorem take_eq_succ {xs ys : List ByteArray} {k n : Nat} (hx : xs.length = n) (hy : ys.length = n) (hk : k < n) (h : xs.take k = ys.take k) (he : xs.getD k ByteArray.empty = ys.getD k ByteArray.empty) :
    xs.take (k + 1) = ys.take (k + 1) := by
  rw [List.take_succ_eq_append_getElem (by omega), List.take_succ_eq_append_getElem (by omega), h]
  simp only [List.getD_eq_getElem?_getD, List.getElem?_eq_getElem (show k < xs.length by omega), List.getElem?_eq_getElem (show k < ys.length by omega), Option.getD_some] at he
  rw [he]

theorem ne_of_getD {xs ys : List ByteArray} {k : Nat} (he : xs.getD k ByteArray.empty ≠ ys.getD k ByteArray.empty) : xs ≠ ys := fun h => he (by rw [h])

set_option maxHeartbeats 400000 in
theorem eqStringS_any (A B : Option Addr) (n m c d lo hi lo' hi' : Nat) (xs ys : List ByteArray) (w : World) (ha : StrR w lo hi A n xs) (hb : StrR w lo' hi' B m ys)
    (hn : n ≤ 4294967296) (hm : m ≤ 4294967296) :
    Calls Tryz.prog 24 #[.slice A n c, .slice B m d] w fun e w' => e = .returned (.bool (decide (xs = ys))) ∧ ∃ q, w' = w.drewN q := by
  by_cases hne : n = m
  · subst hne
    have hab : ((n : Int) != (n : Int)) = false := by simp
    go_enter Tryz.func24, Tryz.ntmps24
    go_wp2
    go_loopw [5] (fun i wr => ∃ k q : Nat, k ≤ n ∧ i = .int .i64 k ∧ wr = w.drewN q ∧ xs.take k = ys.take k) (fun i _ => n - (intOf i).toNat)
    case atStart => exact ⟨0, 0, Nat.zero_le _, rfl, rfl, rfl⟩
    case round =>
      obtain ⟨k, q, hk, rfl, rfl, ht⟩ := hrel
      have HT := Lib.hid ht; clear ht
      by_cases hlt : k < n
      · obtain ⟨b, off, rfl, _, _, hc⟩ := ha.at_ hlt
        obtain ⟨b', off', rfl, _, _, hc'⟩ := hb.at_ hlt
        generalize hX : xs.getD k ByteArray.empty = X at *
        generalize hY : ys.getD k ByteArray.empty = Y at *
        have HX := Lib.hid hX; clear hX
        have HY := Lib.hid hY; clear hY
        have hi1 : (k : Int) < (n : Int) := by omega
        go_wp2
        go_quiet (fail)
        go_wp2
        · have hq : (!X.toList == Y.toList) = true := by assumption
          go_ret
          refine ⟨?_, _, World.drewN_drewN _ _ _⟩
          have hne : X ≠ Y := beq_bytes_false (by simpa using hq)
          have : xs ≠ ys := ne_of_getD (k := k) (by rw [HX.out, HY.out]; exact hne)
          simp [this]
        · have hq : (!X.toList == Y.toList) = false := by assumption
          have he : X = Y := beq_bytes_true (by simpa using hq)
          go_roundw
          case rel => exact ⟨k + 1, _, by omega, by go_num, rfl, take_eq_succ ha.1 hb.1 hlt HT.out (by rw [HX.out, HY.out]; exact he)⟩
          case measure => simp [intOf]; omega
      · go_wp2
        go_ret
        obtain rfl : k = n := by omega
        refine ⟨?_, _, rfl⟩
        have hxy : xs = ys := by
          have := HT.out
          rwa [List.take_of_length_le (by rw [ha.1]; omega), List.take_of_length_le (by rw [hb.1]; omega)] at this
        simp [hxy]
  · have hab : ((n : Int) != (m : Int)) = true := by simp; omega
    go_enter Tryz.func24, Tryz.ntmps24
    go_wp2
    go_ret
    refine ⟨?_, 0, rfl⟩
    have : xs ≠ ys := fun h => hne (by rw [← ha.1, ← hb.1, h])
    simp [this]

theorem eqStringS_b (A B : Option Addr) (n m c d lo hi lo' hi' : Nat) (xs ys : List ByteArray) (w : World) (ha : StrR w lo hi A n xs) (hb : StrR w lo' hi' B m ys)
    (hn : n ≤ 4294967296) (hm : m ≤ 4294967296) :
    Calls Tryz.prog 24 #[.slice A n c, .slice B m d] w fun e w' => e = .returned (.bool (decide (xs = ys))) ∧ Below w.heap.size w w' :=
  (eqStringS_any A B n m c d lo hi lo' hi' xs ys w ha hb hn hm).mono fun _ _ ⟨he, q, hq⟩ => ⟨he, by rw [hq]; exact below_drewN' w q⟩

/-- The digits of k ahead of a text, as the marks' loop puts them. -/
def digitsOn : Nat → Nat → ByteArray → ByteArray
  | 0, _, out => out
  | f + 1, k, out => if 0 < k then digitsOn f (k / 10) (⟨#[48 + UInt8.ofNat (k % 10)]⟩ ++ out) else out

def markT (k : Nat) : ByteArray := ⟨#[109]⟩ ++ digitsOn k k ByteArray.empty

theorem digits_step {f j k : Nat} {out : ByteArray} (hj : 0 < j) (hf : j ≤ f) (h : digitsOn f j out = digitsOn k k ByteArray.empty) :
    ∃ g, f = g + 1 ∧ digitsOn g (j / 10) (⟨#[48 + UInt8.ofNat (j % 10)]⟩ ++ out) = digitsOn k k ByteArray.empty := by
  obtain ⟨g, rfl⟩ : ∃ g, f = g + 1 := ⟨f - 1, by omega⟩
  refine ⟨g, rfl, ?_⟩
  rw [← h]
  conv => rhs; unfold digitsOn
  rw [if_pos hj]

theorem digits_end {f k : Nat} {out : ByteArray} (h : digitsOn f 0 out = digitsOn k k ByteArray.empty) : out = digitsOn k k ByteArray.empty := by
  rw [← h]
  cases f <;> simp [digitsOn]

def marksFrom (k n : Nat) : List ByteArray := (List.range n).map fun i => markT (k + i)
def markedTo (k j : Nat) (xs : List ByteArray) : List ByteArray := marksFrom k j ++ xs.drop j

theorem marksFrom_len (k n : Nat) : (marksFrom k n).length = n := by simp [marksFrom]
theorem markedTo_zero (k : Nat) (xs : List ByteArray) : markedTo k 0 xs = xs := by simp [markedTo, marksFrom]
theorem markedTo_all (k n : Nat) (xs : List ByteArray) (h : xs.length = n) : markedTo k n xs = marksFrom k n := by simp [markedTo, ← h]
theorem markedTo_succ (k j : Nat) (xs : List ByteArray) (h : j < xs.length) : (markedTo k j xs).set j (markT (k + j)) = markedTo k (j + 1) xs := by
  unfold markedTo
  rw [List.set_append, if_neg (by rw [marksFrom_len]; omega), marksFrom_len, Nat.sub_self, List.drop_eq_getElem_cons h, List.set_cons_zero]
  simp [marksFrom, List.range_succ]

end Go.Proofs.YtlhcljhfhkemiaaGreatDoor
