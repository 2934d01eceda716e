/- The program's words of an operation walked: decimal, siteWord, sitesWord. -/
import Derived.Test.YtcjaaknnfohllaaGreatDoorSatQ
import Derived.Test.YtcjaaknnfohllaaGreatDoorFrmP
namespace Go.Proofs.YtcjaaknnfohllaaGreatDoor
open Go.RowKit

theorem decI_any (n : Int) (h1 : -9223372036854775807 ≤ n) (h2 : n ≤ 9223372036854775807) (w : World) (hT : TabsIn w) : Calls Tryz.prog 34 #[.int .i64 n] w fun e w' => e = .returned (.string (decW n)) ∧ Below w.heap.size w w' := by
  have HF := Lib.hid (fun W h => Tryz.strconv_FormatInt_10 n (by omega) (by omega) W h)
  go_enter Tryz.func34, Tryz.ntmps34
  go_wp2_with fail
  refine (HF.out _ hT).mono ?_
  rintro e1 w1 ⟨rfl, q, os, rfl⟩
  have hb := Lib.hid (Lib.below_grow w.heap.size w (Nat.le_refl _) q os)
  go_wp2_with fail
  go_ret
  exact ⟨rfl, hb.out⟩

def wordK (k : Int) : ByteArray := if k = 1 then wJob else if k = 2 then wStep else if k = 3 then wTick else if k = 4 then wFlush else if k = 5 then wPages else if k = 6 then wCheck else wCrash
def wordS (k : Int) : ByteArray := if k = 2 then wShip else if k = 3 then wArrive else if k = 4 then wLose else if k = 5 then wTwice else if k = 6 then wCopy else wSwitch
set_option maxHeartbeats 4000000 in
set_option maxRecDepth 100000 in
theorem siteWord_any (k : Int) (h1 : 1 ≤ k) (h2 : k ≤ 7) (w : World) : Calls Tryz.prog 53 #[.int .i64 k] w fun e w' => e = .returned (.string (wordK k)) ∧ Below w.heap.size w w' := by
  have HD := Lib.hid (fun o => (Below.refl w.heap.size w).alloc (Nat.le_refl _) o)
  rcases (show k = 1 ∨ k = 2 ∨ k = 3 ∨ k = 4 ∨ k = 5 ∨ k = 6 ∨ k = 7 by omega) with rfl | rfl | rfl | rfl | rfl | rfl | rfl
  all_goals
    go_enter Tryz.func53, Tryz.ntmps53
    go_wp2_with fail
    go_ret
    exact ⟨rfl, HD.out _⟩
set_option maxHeartbeats 4000000 in
set_option maxRecDepth 100000 in
theorem sitesWord_any (k : Int) (h1 : 2 ≤ k) (h2 : k ≤ 7) (w : World) : Calls Tryz.prog 33 #[.int .i64 k] w fun e w' => e = .returned (.string (wordS k)) ∧ Below w.heap.size w w' := by
  have HD := Lib.hid (fun o => (Below.refl w.heap.size w).alloc (Nat.le_refl _) o)
  rcases (show k = 2 ∨ k = 3 ∨ k = 4 ∨ k = 5 ∨ k = 6 ∨ k = 7 by omega) with rfl | rfl | rfl | rfl | rfl | rfl
  all_goals
    go_enter Tryz.func33, Tryz.ntmps33
    go_wp2_with fail
    go_ret
    exact ⟨rfl, HD.out _⟩
end Go.Proofs.YtcjaaknnfohllaaGreatDoor
