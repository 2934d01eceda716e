/- An argument that is a screen, opened. -/
import Derived.Test.YtcfmgmbolnifgaaScreenA
import Derived.Test.YtcfmgmbolnifgaaOpenAct
namespace Go.Proofs.Ytcfmgmbolnifgaa
open Go.ChangeShapes Go.WideShapes Go.ChangeAt Go.RowKit

theorem scrFields : ∃ fs, Try.prog.underlying 46 = some (.struct fs) ∧ fs.toList.map (fun f => (f.type, f.offset)) = [(2, 0), (2, 1), (22, 2)] := ⟨_, Try.underlying46, by kernel_rfl⟩
theorem cellsScr : Try.prog.cellsOf 46 = 3 := by kernel_rfl

theorem open_scr {H : Type} {enc : TypeId × Value → H} {w : World} {base : Nat} {held : Bool} {fuel : Nat} {cs : List Value} {x : DataW H × List MemPlace}
    (h : DataW.trod enc Try.prog w base (fun _ => true) held fuel 46 cs = some x) : ∃ y : Scr, ScrR w 0 w.heap.size (.agg cs.toArray) y ∧ y.rows.length ≤ 9223372036854775807 ∧ ∀ r ∈ y.rows, r.size ≤ 9223372036854775807 := by
  obtain ⟨fs, hu, hfs⟩ := scrFields
  obtain ⟨xs, n, _, _, hlen, hxl, hg⟩ := DataW.trod_struct hu h
  rw [cellsScr] at hlen
  obtain ⟨c0, c1, c2, rfl⟩ := list3 hlen
  have F := field_of hfs hxl hg
  obtain ⟨y0, t0⟩ := F 0 _ _ rfl
  obtain ⟨y1, t1⟩ := F 1 _ _ rfl
  obtain ⟨y2, t2⟩ := F 2 _ _ rfl
  rw [cells_int64] at t0 t1
  rw [cells_strs] at t2
  simp only [List.drop_zero, List.drop_succ_cons, List.take_succ_cons, List.take_zero] at t0 t1 t2
  obtain ⟨k, e0, _⟩ := open_i64 Try.underlying2 t0
  obtain ⟨a, e1, _⟩ := open_i64 Try.underlying2 t1
  obtain ⟨A, ca, xa, e2, hA, ha1, ha2⟩ := open_strR Try.underlying22 Try.underlying9 cells_string t2
  simp only [List.cons.injEq, and_true] at e0 e1 e2
  subst e0 e1 e2
  exact ⟨⟨k, a, xa⟩, ⟨A, ca, rfl, hA⟩, ha1, ha2⟩

end Go.Proofs.Ytcfmgmbolnifgaa
