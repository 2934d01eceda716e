/- Screens in the walk of a law: reading, owning, marks; each in a range of blocks. -/
import Derived.Test.YtbpopkaafellgaaDoorLaw
import Derived.Test.YtbpopkaafellgaaDoorScreenI
namespace Go.Proofs.YtbpopkaafellgaaDoor
open Go.RowKit

theorem loc_scrR (lo hi : Nat) (v : Value) (s : Scr) : Loc lo hi (fun w => ScrR w lo hi v s) := fun _ _ hk ⟨A, c, hv, h⟩ => ⟨A, c, hv, h.keep hk⟩

/-- A screen of the call's own, in blocks from lo up to, not including, hi. -/
def OwnScrI (w : World) (lo hi : Nat) (v : Value) (s : Scr) : Prop :=
  ∃ A c, v = .agg #[.int .i64 s.row, .int .i64 s.col, .slice A s.rows.length c] ∧ w.ownsRow lo 9 1 (.slice A s.rows.length c) s.rows.length (s.rows.map Value.string) ∧ ∀ g, (Value.slice A s.rows.length c).ownBlock = some g → g < hi
theorem loc_ownScr (lo hi : Nat) (v : Value) (s : Scr) : Loc lo hi (fun w => OwnScrI w lo hi v s) := fun _ _ hk ⟨A, c, hv, h, hh⟩ => ⟨A, c, hv, own_keep h hh hk, hh⟩
theorem OwnScr.inside {w : World} {base : Nat} {v : Value} {s : Scr} (h : OwnScr w base v s) : OwnScrI w base w.heap.size v s := by
  obtain ⟨A, c, hv, h1⟩ := h
  exact ⟨A, c, hv, h1, fun g hg => (h1.lt g hg).2⟩
theorem OwnScrI.reads {w : World} {lo hi : Nat} {v : Value} {s : Scr} (h : OwnScrI w lo hi v s) : ScrR w lo hi v s := by
  obtain ⟨A, c, hv, h1, hh⟩ := h
  refine ⟨A, c, hv, rfl, fun hn => ?_⟩
  obtain ⟨b, off, e, h2, h3, hc⟩ := (RowR.of_own (d := ByteArray.empty) h1).2 hn
  refine ⟨b, off, e, h2, hh b ?_, hc⟩
  subst e
  obtain ⟨g, e2, _⟩ := own_head h1 hn
  rw [e2]
  injection e2 with e3
  injection e3 with e4
  rw [e4]; rfl

/-- A screen that bears its marks; the count behind them is m. -/
def HeldScr (w : World) (lo hi : Nat) (v : Value) (m : Int) : Prop :=
  ∃ (s : Scr) (A : Option Addr) (c : Nat), v = .agg #[.int .i64 s.row, .int .i64 s.col, .slice A s.rows.length c] ∧ StrR w lo hi A s.rows.length (marksFrom 1 s.rows.length) ∧ s.rows.length ≤ 1048576 ∧ m = ((1 + s.rows.length : Nat) : Int)
theorem loc_heldScr (lo hi : Nat) (v : Value) (m : Int) : Loc lo hi (fun w => HeldScr w lo hi v m) := fun _ _ hk ⟨s, A, c, hv, h, r⟩ => ⟨s, A, c, hv, h.keep hk, r⟩

theorem tabToP_small (s : Scr) (col : Int) : (tabToP s col).rows.length ≤ 1048576 := by
  unfold tabToP
  split
  · rename_i h
    have hF := Fine.of_scrB h
    split
    · have := hF.len; omega
    · have h0 := hF.col0
      have := (putsTo_col hF (col - s.col).toNat (by omega)).2.len
      omega
  · simp [noScr]

end Go.Proofs.YtbpopkaafellgaaDoor
