/- An argument that is an operation of a site, opened. -/
import Derived.Test.YtcjaaknnfohllaaGreatDoorActTo
import Derived.Test.YtcjaaknnfohllaaGreatDoorOpenCells
namespace Go.Proofs.YtcjaaknnfohllaaGreatDoor
open Go.ChangeShapes Go.WideShapes Go.ChangeAt Go.RowKit

theorem actFields : ∃ fs, Tryz.prog.underlying 25 = some (.struct fs) ∧ fs.toList.map (fun f => (f.type, f.offset)) = [(2, 0), (2, 1), (9, 2), (9, 3), (22, 4), (22, 5), (23, 6)] := ⟨_, Tryz.underlying25, by kernel_rfl⟩
theorem cellsAct : Tryz.prog.cellsOf 25 = 7 := by kernel_rfl
theorem cells_ints : Tryz.prog.cellsOf 23 = 1 := by kernel_rfl

theorem open_act {H : Type} {enc : TypeId × Value → H} {w : World} {base : Nat} {held : Bool} {fuel : Nat} {cs : List Value} {x : DataW H × List MemPlace}
    (h : DataW.trod enc Tryz.prog w base (fun _ => true) held fuel 25 cs = some x) : ∃ y : Act, ActR w 0 w.heap.size (.agg cs.toArray) y ∧ ActReach y := by
  obtain ⟨fs, hu, hfs⟩ := actFields
  obtain ⟨xs, n, _, _, hlen, hxl, hg⟩ := DataW.trod_struct hu h
  rw [cellsAct] at hlen
  obtain ⟨c0, c1, c2, c3, c4, c5, c6, rfl⟩ := list7 hlen
  have F := field_of hfs hxl hg
  obtain ⟨y0, t0⟩ := F 0 _ _ rfl
  obtain ⟨y1, t1⟩ := F 1 _ _ rfl
  obtain ⟨y2, t2⟩ := F 2 _ _ rfl
  obtain ⟨y3, t3⟩ := F 3 _ _ rfl
  obtain ⟨y4, t4⟩ := F 4 _ _ rfl
  obtain ⟨y5, t5⟩ := F 5 _ _ rfl
  obtain ⟨y6, t6⟩ := F 6 _ _ rfl
  rw [cells_int64] at t0 t1
  rw [cells_string] at t2 t3
  rw [cells_strs] at t4 t5
  rw [cells_ints] at t6
  simp only [List.drop_zero, List.drop_succ_cons, List.take_succ_cons, List.take_zero] at t0 t1 t2 t3 t4 t5 t6
  obtain ⟨k, e0, _⟩ := open_i64 Tryz.underlying2 t0
  obtain ⟨a, e1, _⟩ := open_i64 Tryz.underlying2 t1
  obtain ⟨r, e2, hr⟩ := open_str Tryz.underlying9 t2
  obtain ⟨l, e3, hl⟩ := open_str Tryz.underlying9 t3
  obtain ⟨A, ca, xa, e4, hA, ha1, ha2⟩ := open_strR Tryz.underlying22 Tryz.underlying9 cells_string t4
  obtain ⟨B, cb, xb, e5, hB, hb1, hb2⟩ := open_strR Tryz.underlying22 Tryz.underlying9 cells_string t5
  obtain ⟨C, cc, xc, e6, hC, hc1⟩ := open_intR Tryz.underlying23 Tryz.underlying2 cells_int64 t6
  simp only [List.cons.injEq, and_true] at e0 e1 e2 e3 e4 e5 e6
  subst e0 e1 e2 e3 e4 e5 e6
  exact ⟨⟨k, a, r, l, xa, xb, xc⟩, ⟨A, ca, B, cb, C, cc, rfl, hA, hB, hC⟩, hr, hl, ha1, hb1, hc1, ha2, hb2⟩


end Go.Proofs.YtcjaaknnfohllaaGreatDoor
