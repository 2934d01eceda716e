/- FnExactPlainText returns true for every text: the walk of the law. -/
import Derived.Test.YtbofglgndgbeaaaDoorFrmP
namespace Go.Proofs.YtbofglgndgbeaaaDoor
open Go.RowKit

set_option maxHeartbeats 4000000 in
set_option maxRecDepth 100000 in
theorem law_PlainText (t : ByteArray) (w : World) (hE : EnvIn w) : Calls Tryd.prog 3 #[.string t] w fun e w' => e = .returned (.bool true) ∧ Below w.heap.size w w' := by
  by_cases h : 1048576 < t.size
  · have h1 : (1048576 : Int) < (t.size : Int) := by omega
    go_enter Tryd.func3, Tryd.ntmps3
    go_wp2_with fail
    go_ret
    exact ⟨rfl, Below.refl _ _⟩
  · have h1 : ¬ (1048576 : Int) < (t.size : Int) := by omega
    have HS := Lib.hid (fun W => specPlainText_any t W)
    have HI := Lib.hid (fun W h => implPlainText_any t W h)
    have HE := Lib.hid hE; clear hE
    generalize (⟨(if 64 < t.size then [] else plainP t.data.toList).toArray⟩ : ByteArray) = R at *
    have HN := Lib.hid (show (R.toList == R.toList) = true from beq_self_eq_true _)
    have HN2 := Lib.hid (show (R.toList != R.toList) = false from bne_self_eq_false _)
    go_enter Tryd.func3, Tryd.ntmps3
    go_wp2_with fail
    refine (HS.out _).mono ?_; rintro e1 w1 ⟨rfl, hb1⟩
    have HB1 := Lib.hid hb1; clear hb1
    go_wp2_with fail
    refine (HI.out _ (HE.out.below HB1.out)).mono ?_; rintro e2 w2 ⟨rfl, hb2⟩
    have HB2 := Lib.hid (HB1.out.trans (hb2.mono HB1.out.size)); clear hb2
    go_wp2_with fail
    go_ret
    exact ⟨rfl, HB2.out⟩
end Go.Proofs.YtbofglgndgbeaaaDoor
