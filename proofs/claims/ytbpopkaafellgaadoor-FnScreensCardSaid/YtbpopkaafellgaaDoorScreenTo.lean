/- Walks: szScreen, toScreen, eqScreen, markScreen, heldScreen. -/
import Derived.Test.YtbpopkaafellgaaDoorScreenA
import Derived.Test.YtbpopkaafellgaaDoorActTo
namespace Go.Proofs.YtbpopkaafellgaaDoor
open Go.RowKit

/-- A screen whose rows are of the call's own, from base on. -/
def OwnScr (w : World) (base : Nat) (v : Value) (s : Scr) : Prop :=
  ∃ A c, v = .agg #[.int .i64 s.row, .int .i64 s.col, .slice A s.rows.length c] ∧ w.ownsRow base 9 1 (.slice A s.rows.length c) s.rows.length (s.rows.map Value.string)

theorem OwnScr.reads {w : World} {base : Nat} {v : Value} {s : Scr} (h : OwnScr w base v s) : ScrR w base w.heap.size v s := by
  obtain ⟨A, c, hv, h1⟩ := h
  exact ⟨A, c, hv, RowR.of_own h1⟩
theorem OwnScr.below {w w' : World} {base : Nat} {v : Value} {s : Scr} (h : OwnScr w base v s) (hb : Below w.heap.size w w') : OwnScr w' base v s := by
  obtain ⟨A, c, hv, h1⟩ := h
  exact ⟨A, c, hv, own_below h1 hb⟩
theorem OwnScr.mono {w : World} {base base' : Nat} {v : Value} {s : Scr} (h : OwnScr w base v s) (hb : base' ≤ base) : OwnScr w base' v s := by
  obtain ⟨A, c, hv, h1⟩ := h
  exact ⟨A, c, hv, own_mono h1 hb⟩

theorem RowR.grown2 {α : Type} {enc : α → Value} {d : α} {w w' : World} {lo hi : Nat} {A : Option Addr} {n : Nat} {xs : List α} {row : Option Nat} (h : RowR enc d w lo hi A n xs) (hg : w.grownBy w' row) (hhi : hi ≤ w.heap.size) (hr : ∀ g, row = some g → g < lo ∨ hi ≤ g) : RowR enc d w' lo hi A n xs :=
  h.keep fun b h1 h2 => hg.block b (by omega) (fun e => by have := hr b e.symm; omega)
theorem ScrR.grown2 {w w' : World} {lo hi : Nat} {v : Value} {s : Scr} {row : Option Nat} (h : ScrR w lo hi v s) (hg : w.grownBy w' row) (hhi : hi ≤ w.heap.size) (hr : ∀ g, row = some g → g < lo ∨ hi ≤ g) : ScrR w' lo hi v s := by
  obtain ⟨A, c, hv, h1⟩ := h
  exact ⟨A, c, hv, h1.grown2 hg hhi hr⟩

theorem grown_alloc {w w' : World} {o : Obj} {row : Option Nat} (h : (w.alloc o).grownBy w' row) : w.grownBy w' row :=
  ⟨h.os, h.tape, h.output, Nat.le_trans (by simp) h.size, fun i hi hn => (h.block i (by simp; omega) hn).trans (Below.heap_alloc w o i hi)⟩

theorem ScrSmall.of_cost {s : Scr} (h : costStrs s.rows ≤ 1048576) : ScrSmall s := by
  unfold costStrs at h
  exact ⟨by omega, fun y hy => by have := mem_le_sizeAll hy; omega⟩

end Go.Proofs.YtbpopkaafellgaaDoor
