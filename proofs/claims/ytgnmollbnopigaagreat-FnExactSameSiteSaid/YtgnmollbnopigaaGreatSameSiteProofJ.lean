/- FnExactSameSite returns true for all arguments: the program's SameSite gives what the reference's gives, in memory of its own. No condition. -/
import Derived.Test.YtgnmollbnopigaaGreatJoinSSCb
import Derived.Test.YtgnmollbnopigaaGreatJoinSSBx
namespace Go.Proofs.YtgnmollbnopigaaGreat
open Go.ChangeShapes Go.WideShapes Go.ChangeAt Go.RowKit
set_option maxRecDepth 100000
theorem sameSite_holds : Rows.FnExactSameSiteSaid :=
 OpenClaim.holds_of_wide 3 Tryz.f3 rfl rfl rfl rfl rfl rfl rfl ⟨rfl, rfl, rfl, rfl, rfl⟩ rfl rfl rfl rfl rfl sameSite_named Tryz.func3 sameSite_facts
  (of_decide_eq_true (by kernel_rfl)) (by unfold Func.isWrapper; first | (rw [if_pos (by decide +kernel)]; kernel_rfl) | (rw [if_neg (by decide +kernel)]; exact ⟨rfl, rfl⟩))
  (fun os started H enc _ => sameSite_lifted os started H enc)
#print axioms sameSite_holds
end Go.Proofs.YtgnmollbnopigaaGreat
