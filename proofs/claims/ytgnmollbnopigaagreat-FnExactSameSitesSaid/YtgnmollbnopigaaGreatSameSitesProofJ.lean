/- FnExactSameSites returns true for all arguments: the program's SameSites gives what the reference's gives, in memory of its own. No condition. -/
import Derived.Test.YtgnmollbnopigaaGreatJoinSTCb
import Derived.Test.YtgnmollbnopigaaGreatJoinSTBw
namespace Go.Proofs.YtgnmollbnopigaaGreat
open Go.ChangeShapes Go.WideShapes Go.ChangeAt Go.RowKit
set_option maxRecDepth 100000
theorem sameSites_holds : Rows.FnExactSameSitesSaid :=
 OpenClaim.holds_of_wide 4 Tryz.f4 rfl rfl rfl rfl rfl rfl rfl ⟨rfl, rfl, rfl, rfl, rfl⟩ rfl rfl rfl rfl rfl sameSites_named Tryz.func4 sameSites_facts
  (of_decide_eq_true (by kernel_rfl)) (by unfold Func.isWrapper; first | (rw [if_pos (by decide +kernel)]; kernel_rfl) | (rw [if_neg (by decide +kernel)]; exact ⟨rfl, rfl⟩))
  (fun os started H enc _ => sameSites_lifted os started H enc)
#print axioms sameSites_holds
end Go.Proofs.YtgnmollbnopigaaGreat
