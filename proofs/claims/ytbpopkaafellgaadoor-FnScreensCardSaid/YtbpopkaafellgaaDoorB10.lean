/- The laws' helpers on drawn bytes: b10At, b10Long, b10Texts. -/
import Derived.Test.YtbpopkaafellgaaDoorSrc
namespace Go.Proofs.YtbpopkaafellgaaDoor
open Go.RowKit

set_option maxHeartbeats 4000000 in
set_option maxRecDepth 100000 in
theorem b10Long_any (A B : Option Addr) (n c m d : Nat) (w : World) :
    Calls Tryd.prog 4 #[.slice A n c, .slice B m d] w fun e w' => e = .returned (.bool (decide (1048576 < n) || decide (1048576 < m))) ∧ Below w.heap.size w w' := by
  by_cases h1 : 1048576 < n
  · have t1 : (1048576 : Int) < (n : Int) := by omega
    go_enter Tryd.func4, Tryd.ntmps4
    go_wp2_with fail
    go_ret
    exact ⟨by simp [h1], Below.refl _ _⟩
  · have t1 : ¬ (1048576 : Int) < (n : Int) := by omega
    by_cases h2 : 1048576 < m
    · have t2 : (1048576 : Int) < (m : Int) := by omega
      go_enter Tryd.func4, Tryd.ntmps4
      go_wp2_with fail
      go_ret
      exact ⟨by simp [h2], Below.refl _ _⟩
    · have t2 : ¬ (1048576 : Int) < (m : Int) := by omega
      go_enter Tryd.func4, Tryd.ntmps4
      go_wp2_with fail
      go_ret
      exact ⟨by simp [h1, h2], Below.refl _ _⟩

set_option maxHeartbeats 4000000 in
set_option maxRecDepth 100000 in
theorem b10At_any (lo hi : Nat) (A : Option Addr) (n c : Nat) (i : Nat) (m : Int) (w : World) (hb : BytesR w lo hi A n) (hi : i ≤ 1000000) (hm : m ≤ 4294967296) :
    Calls Tryd.prog 8 #[.slice A n c, .int .i64 i, .int .i64 m] w fun e w' => ∃ r : Int, e = .returned (.int .i64 r) ∧ 0 ≤ r ∧ (1 ≤ m → r < m) ∧ Below w.heap.size w w' := by
  by_cases h1 : m ≤ 1
  · go_enter Tryd.func8, Tryd.ntmps8
    go_wp2_with fail
    go_ret
    exact ⟨0, rfl, Int.le_refl _, fun h => by omega, Below.refl _ _⟩
  · have hm0 : ¬ m = 0 := by omega
    by_cases h2 : i < n
    · obtain ⟨b, off, rfl, hb1, hb2, hcell⟩ := hb (by omega)
      obtain ⟨z, hz, hc⟩ := hcell i h2
      have hr0 : (0 : Int) ≤ (z : Int) % m := Int.emod_nonneg _ (by omega)
      have hr1 : (z : Int) % m < m := Int.emod_lt_of_pos _ (by omega)
      have HR := Lib.hid (And.intro hr0 hr1)
      have t2 : (i : Int) < (n : Int) := by omega
      clear hcell hr0 hr1 hb
      go_enter Tryd.func8, Tryd.ntmps8
      go_wp2_with fail
      go_ret
      exact ⟨_, rfl, HR.out.1, fun _ => HR.out.2, Below.refl _ _⟩
    · have hr0 : (0 : Int) ≤ ((i : Int) * 37 + 11) % m := Int.emod_nonneg _ (by omega)
      have hr1 : ((i : Int) * 37 + 11) % m < m := Int.emod_lt_of_pos _ (by omega)
      have HR := Lib.hid (And.intro hr0 hr1)
      have t2 : ¬ (i : Int) < (n : Int) := by omega
      clear hr0 hr1
      go_enter Tryd.func8, Tryd.ntmps8
      go_wp2_with fail
      go_ret
      exact ⟨_, rfl, HR.out.1, fun _ => HR.out.2, Below.refl _ _⟩

set_option maxHeartbeats 4000000 in
set_option maxRecDepth 100000 in
theorem b10Texts_any (A B : Option Addr) (n c d lo hi lo' hi' : Nat) (xs : List ByteArray) (w : World) (ha : StrR w lo hi A n xs) (hb : StrR w lo' hi' B n xs) (hn : n ≤ 4294967296) :
    Calls Tryd.prog 9 #[.slice A n c, .slice B n d] w fun e w' => e = .returned (.bool true) ∧ Below w.heap.size w w' := by
  have hab : ((n : Int) != (n : Int)) = false := by simp
  go_enter Tryd.func9, Tryd.ntmps9
  go_wp2_with fail
  go_loopw [5] (fun i wr => ∃ k q : Nat, k ≤ n ∧ i = .int .i64 k ∧ wr = w.drewN q) (fun i _ => n - (intOf i).toNat)
  case atStart => exact ⟨0, 0, Nat.zero_le _, rfl, rfl⟩
  case round =>
    obtain ⟨k, q, hk, rfl, rfl⟩ := hrel
    by_cases hlt : k < n
    · obtain ⟨b, off, rfl, _, _, hc⟩ := ha.at_ hlt
      obtain ⟨b', off', rfl, _, _, hc'⟩ := hb.at_ hlt
      generalize hX : xs.getD k ByteArray.empty = X at *
      have hq : (!X.toList == X.toList) = false := by simp
      have hi1 : (k : Int) < (n : Int) := by omega
      go_wp2
      go_quiet (fail)
      go_wp2
      go_roundw
      case rel => exact ⟨k + 1, _, by omega, by go_num, rfl⟩
      case measure => simp [intOf]; omega
    · go_wp2
      go_ret
      exact ⟨rfl, below_drewN' w q⟩
end Go.Proofs.YtbpopkaafellgaaDoor
