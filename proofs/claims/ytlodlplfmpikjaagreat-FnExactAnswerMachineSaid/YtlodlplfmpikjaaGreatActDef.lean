/- An operation of a site: its plain form, and how its value lies in memory. -/
import Derived.Test.YtlodlplfmpikjaaGreatMem
namespace Go.Proofs.YtlodlplfmpikjaaGreat
open Go.RowKit

structure Act where
  k : Int
  a : Int
  r : ByteArray
  l : ByteArray
  args : List ByteArray
  input : List ByteArray
  keep : List Int

/-- The value of an operation of a site, and where its lists lie. -/
def ActR (w : World) (lo hi : Nat) (v : Value) (x : Act) : Prop :=
  ∃ A c B d C e, v = .agg #[.int .i64 x.k, .int .i64 x.a, .string x.r, .string x.l, .slice A x.args.length c, .slice B x.input.length d, .slice C x.keep.length e] ∧
    StrR w lo hi A x.args.length x.args ∧ StrR w lo hi B x.input.length x.input ∧ IntR w lo hi C x.keep.length x.keep

def ActSmall (x : Act) : Prop := x.r.size ≤ 1048576 ∧ x.l.size ≤ 1048576 ∧ x.args.length ≤ 1048576 ∧ x.input.length ≤ 1048576 ∧ x.keep.length ≤ 1048576 ∧ (∀ y ∈ x.args, y.size ≤ 1048576) ∧ (∀ y ∈ x.input, y.size ≤ 1048576)

theorem ActR.below {w w' : World} {lo hi B : Nat} {v : Value} {x : Act} (h : ActR w lo hi v x) (hb : Below B w w') (hB : hi ≤ B) : ActR w' lo hi v x := by
  obtain ⟨A, c, B', d, C, e, hv, h1, h2, h3⟩ := h
  exact ⟨A, c, B', d, C, e, hv, h1.below hb hB, h2.below hb hB, h3.below hb hB⟩


end Go.Proofs.YtlodlplfmpikjaaGreat
