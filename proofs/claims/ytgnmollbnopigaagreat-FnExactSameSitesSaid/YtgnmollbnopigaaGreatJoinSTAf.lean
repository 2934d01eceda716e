/- Shapes: rows that grow by append: one element that was made, many elements that own nothing; rows that were laid at once. -/
import Derived.Test.YtgnmollbnopigaaGreatJoinSTAe
namespace Go.Proofs.YtgnmollbnopigaaGreat
open Go.RowKit
section
variable {α : Type} {s : Sh α} {t : TypeId}
end
def Two (w0 w : World) (t0 t1 : TypeId) (c0 c1 : Array Value) : Prop := Blk w w0.heap.size t0 c0 ∧ Blk w (w0.heap.size + 1) t1 c1 ∧ Below w0.heap.size w0 w
theorem Two.start (w : World) (t0 t1 : TypeId) (c0 c1 : Array Value) : Two w ((w.alloc (.cells c0 t0)).alloc (.cells c1 t1)) t0 t1 c0 c1 := by
 refine ⟨(Blk.new w t0 c0).alloc _, ?_, ((Below.refl _ _).alloc (Nat.le_refl _) _).alloc (by simp) _⟩
 have := Blk.new (w.alloc (.cells c0 t0)) t1 c1
 simpa using this
theorem Two.call {w0 w w1 : World} {t0 t1 : TypeId} {c0 c1 : Array Value} (h : Two w0 w t0 t1 c0 c1) (hb : Below w.heap.size w w1) : Two w0 w1 t0 t1 c0 c1 :=
 ⟨h.1.below hb h.1.lt, h.2.1.below hb h.2.1.lt, h.2.2.trans (hb.mono h.2.2.size)⟩
end Go.Proofs.YtgnmollbnopigaaGreat
