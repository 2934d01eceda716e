/- Walks of the reference's ShowOn, TabTo. -/
import Derived.Test.YtbpopkaafellgaaDoorScreenW
import Derived.IntWalk
import Derived.Outline
namespace Go.Proofs.YtbpopkaafellgaaDoor
open Go.RowKit

def noScr : Scr := ⟨0, 0, []⟩
def showOnP (s : Scr) (text : ByteArray) : Scr := if scrB s then showTo s text text.size else noScr
def tabToP (s : Scr) (col : Int) : Scr := if scrB s then (if 20 ≤ col ∨ col ≤ s.col then s else putsTo s (col - s.col).toNat) else noScr

/-- The parameter's block and the result's, behind w0. -/
theorem CopyHeld.start (w : World) (cs : Array Value) : CopyHeld w cs ((w.alloc (.cells cs 26)).alloc (.cells #[.int .i64 0, .int .i64 0, .slice none 0 0] 26)) := ⟨by (repeat' (first | (with_reducible refine Blk.new' ?_ _ _; simp; done) | with_reducible refine Blk.drew1 ?_ | with_reducible refine Blk.alloc ?_ _)), by (repeat' (first | (with_reducible refine Blk.new' ?_ _ _; simp; done) | with_reducible refine Blk.drew1 ?_ | with_reducible refine Blk.alloc ?_ _)), by (repeat' (first | exact Below.refl _ _ | refine Below.drew ?_ | refine Below.alloc ?_ (by simp <;> omega) _))⟩

theorem ScrR.none_ (w : World) (lo hi : Nat) : ScrR w lo hi (.agg #[.int .i64 0, .int .i64 0, .slice none 0 0]) noScr := ⟨none, 0, rfl, rfl, fun h => absurd h (Nat.lt_irrefl 0)⟩

/-- As CopyHeld, whatever the result's block holds. -/
def TabHeld (w0 : World) (cs : Array Value) (w : World) : Prop :=
  Blk w w0.heap.size 26 cs ∧ (∃ r0 r1 r2, Blk w (w0.heap.size + 1) 26 #[r0, r1, r2]) ∧ Below w0.heap.size w0 w
theorem TabHeld.below {w0 w w' : World} {cs : Array Value} (h : TabHeld w0 cs w) (hb : Below w.heap.size w w') : TabHeld w0 cs w' := by
  obtain ⟨h1, ⟨r0, r1, r2, h2⟩, h3⟩ := h
  exact ⟨h1.below hb h1.lt, ⟨r0, r1, r2, h2.below hb h2.lt⟩, h3.trans (hb.mono h3.size)⟩
theorem TabHeld.below0 {w0 w : World} {cs : Array Value} (h : TabHeld w0 cs w) : Below w0.heap.size w0 w := h.2.2
theorem TabHeld.res {w0 w : World} {cs : Array Value} (h : TabHeld w0 cs w) : ∃ r0 r1 r2, Blk w (w0.heap.size + 1) 26 #[r0, r1, r2] := h.2.1
theorem TabHeld.lt {w0 w : World} {cs : Array Value} (h : TabHeld w0 cs w) : w0.heap.size + 1 < w.heap.size := by
  obtain ⟨_, _, _, b⟩ := h.res
  exact b.lt
theorem TabHeld.set {w0 w : World} {cs : Array Value} (h : TabHeld w0 cs w) (i : Nat) (u : Value) : TabHeld w0 cs (w.setCell ⟨w0.heap.size + 1, i, none⟩ u) := by
  obtain ⟨h1, ⟨r0, r1, r2, h2⟩, h3⟩ := h
  refine ⟨h1.far (p := ⟨w0.heap.size + 1, i, none⟩) (by simp) u, ?_, h3.setCell (p := ⟨w0.heap.size + 1, i, none⟩) (by simp) u⟩
  have := h2.set_ i u
  match i, this with
  | 0, this => exact ⟨_, _, _, this⟩
  | 1, this => exact ⟨_, _, _, this⟩
  | 2, this => exact ⟨_, _, _, this⟩
  | (n + 3), this => exact ⟨r0, r1, r2, by simpa using this⟩
theorem TabHeld.both {w0 w : World} {cs : Array Value} (h : TabHeld w0 cs w) : (∀ i, w.cell? ⟨w0.heap.size, i, none⟩ = cs[i]?) ∧ TabHeld w0 cs w := ⟨h.1.cell, h⟩
theorem CopyHeld.tab {w0 w : World} {cs : Array Value} (h : CopyHeld w0 cs w) : TabHeld w0 cs w := ⟨h.1, ⟨_, _, _, h.2.1⟩, h.2.2⟩

end Go.Proofs.YtbpopkaafellgaaDoor
