/- Walks: toSiteAct, szSiteAct, eqSiteAct. -/
import Derived.Test.YtlodlplfmpikjaaGreatSlices
import Derived.Test.YtlodlplfmpikjaaGreatActDef
namespace Go.Proofs.YtlodlplfmpikjaaGreat
open Go.RowKit
theorem szStringS_m (A : Option Addr) (n c lo hi : Nat) (left : Int) (xs : List ByteArray) (w : World) (ha : StrR w lo hi A n xs) (hn : n ≤ 9223372036854775807) (hl0 : 0 ≤ left) (hl : left ≤ 1048576) (hb : ∀ x ∈ xs, x.size ≤ 9223372036854775807) :
    Calls Tryz.prog 11 #[.slice A n c, .int .i64 left] w fun e w' => ∃ m, e = .returned (.int .i64 m) ∧ Left left (costStrs xs) m ∧ w = w' := by
  obtain ⟨k, rfl⟩ := Int.eq_ofNat_of_zero_le hl0
  refine (szStringS_any A n c lo hi k xs w ha hn (by omega) hb).mono fun e w' ⟨he, hw⟩ => ⟨_, he, ?_, hw.symm⟩
  unfold leftStrs Left costStrs
  split
  · right; omega
  · left; rfl

def costAct (x : Act) : Nat := x.r.size + x.l.size + costStrs x.args + costStrs x.input + x.keep.length

/-- Each list and each text of the argument is within the form's reach. -/
def ActReach (x : Act) : Prop := x.r.size ≤ 9223372036854775807 ∧ x.l.size ≤ 9223372036854775807 ∧ x.args.length ≤ 9223372036854775807 ∧ x.input.length ≤ 9223372036854775807 ∧ x.keep.length ≤ 9223372036854775807 ∧
  (∀ y ∈ x.args, y.size ≤ 9223372036854775807) ∧ (∀ y ∈ x.input, y.size ≤ 9223372036854775807)

theorem ActSmall.of_cost {x : Act} (h : costAct x ≤ 1048576) : ActSmall x := by
  unfold costAct costStrs at h
  exact ⟨by omega, by omega, by omega, by omega, by omega, fun y hy => by have := mem_le_sizeAll hy; omega, fun y hy => by have := mem_le_sizeAll hy; omega⟩

end Go.Proofs.YtlodlplfmpikjaaGreat
