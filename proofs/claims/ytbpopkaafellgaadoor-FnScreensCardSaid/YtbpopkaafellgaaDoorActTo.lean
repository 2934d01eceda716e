/- Walks: toSiteAct, szSiteAct, eqSiteAct. -/
import Derived.Test.YtbpopkaafellgaaDoorSlices
import Derived.Test.YtbpopkaafellgaaDoorActDef
namespace Go.Proofs.YtbpopkaafellgaaDoor
open Go.RowKit
def costAct (x : Act) : Nat := x.r.size + x.l.size + costStrs x.args + costStrs x.input + x.keep.length

/-- Each list and each text of the argument is within the form's reach. -/
def ActReach (x : Act) : Prop := x.r.size ≤ 9223372036854775807 ∧ x.l.size ≤ 9223372036854775807 ∧ x.args.length ≤ 9223372036854775807 ∧ x.input.length ≤ 9223372036854775807 ∧ x.keep.length ≤ 9223372036854775807 ∧
  (∀ y ∈ x.args, y.size ≤ 9223372036854775807) ∧ (∀ y ∈ x.input, y.size ≤ 9223372036854775807)

theorem ActSmall.of_cost {x : Act} (h : costAct x ≤ 1048576) : ActSmall x := by
  unfold costAct costStrs at h
  exact ⟨by omega, by omega, by omega, by omega, by omega, fun y hy => by have := mem_le_sizeAll hy; omega, fun y hy => by have := mem_le_sizeAll hy; omega⟩

end Go.Proofs.YtbpopkaafellgaaDoor
