/- FnExactReadPlain returns true for every text: the walk of the law. -/
import Derived.Test.YtlhcljhfhkemiaaGreatDoorRpl
namespace Go.Proofs.YtlhcljhfhkemiaaGreatDoor
open Go.RowKit

set_option maxHeartbeats 4000000 in
set_option maxRecDepth 100000 in
theorem law_ReadPlain (t : ByteArray) (w : World) (hE : EnvR w) : Calls Tryz.prog 5 #[.string t] w fun e w' => e = .returned (.bool true) ∧ Below w.heap.size w w' := by
  by_cases h : 1048576 < t.size
  · have h1 : (1048576 : Int) < (t.size : Int) := by omega
    go_enter Tryz.func5, Tryz.ntmps5
    go_wp2_with fail
    go_ret
    exact ⟨rfl, Below.refl _ _⟩
  · have h1 : ¬ (1048576 : Int) < (t.size : Int) := by omega
    have HS := Lib.hid (fun W => specReadPlain_any t W)
    have HI := Lib.hid (fun W h => implReadPlain_any t (by omega) W h)
    have HE := Lib.hid hE; clear hE
    have HQ := Lib.hid (rd_same t.data.toList)
    rw [← HQ.out] at HI
    generalize rdS t.data.toList = Q at *
    obtain ⟨Q1, Q2⟩ := Q
    dsimp only at HS HI
    generalize (⟨Q1.toArray⟩ : ByteArray) = R at *
    have hN : (R.toList == R.toList) = true := beq_self_eq_true _
    cases Q2
    all_goals
      go_enter Tryz.func5, Tryz.ntmps5
      go_wp2_with fail
      refine (HS.out _).mono ?_; rintro e1 w1 ⟨rfl, hb1⟩
      have HB1 := Lib.hid hb1; clear hb1
      go_wp2_with fail
      refine (HI.out _ (HE.out.below HB1.out)).mono ?_; rintro e2 w2 ⟨rfl, hb2⟩
      have HB2 := Lib.hid (HB1.out.trans (hb2.mono HB1.out.size)); clear hb2
      go_wp2_with fail
      go_ret
      exact ⟨rfl, HB2.out⟩
end Go.Proofs.YtlhcljhfhkemiaaGreatDoor
