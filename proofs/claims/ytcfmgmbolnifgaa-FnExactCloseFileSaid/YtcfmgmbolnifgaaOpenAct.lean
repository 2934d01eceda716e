/- An argument that is an operation of a site, opened. -/
import Derived.Test.YtcfmgmbolnifgaaActTo
import Derived.Test.YtcfmgmbolnifgaaOpen
namespace Go.Proofs.Ytcfmgmbolnifgaa
open Go.ChangeShapes Go.WideShapes Go.ChangeAt Go.RowKit

theorem actFields : ∃ fs, Try.prog.underlying 29 = some (.struct fs) ∧ fs.toList.map (fun f => (f.type, f.offset)) = [(2, 0), (2, 1), (9, 2), (9, 3), (22, 4), (22, 5), (27, 6)] := ⟨_, Try.underlying29, by kernel_rfl⟩
theorem cellsAct : Try.prog.cellsOf 29 = 7 := by kernel_rfl
theorem cells_int64 : Try.prog.cellsOf 2 = 1 := by kernel_rfl
theorem cells_string : Try.prog.cellsOf 9 = 1 := by kernel_rfl
theorem cells_strs : Try.prog.cellsOf 22 = 1 := by kernel_rfl
theorem cells_ints : Try.prog.cellsOf 27 = 1 := by kernel_rfl

theorem field_of {H : Type} {enc : TypeId × Value → H} {P : Program} {w : World} {base : Nat} {spare : Nat → Bool} {held : Bool} {n : Nat} {cs : List Value} {xs : List (DataW H × List MemPlace)} {fs : Array Field} {l : List (TypeId × Nat)}
    (hl : fs.toList.map (fun f => (f.type, f.offset)) = l) (hx : xs.length = fs.size)
    (hg : ∀ (i : Nat) (f : Field), fs[i]? = some f → DataW.trod enc P w base spare held n f.type ((cs.drop f.offset).take (P.cellsOf f.type)) = xs[i]?) (i : Nat) (t : TypeId) (o : Nat) (hi : l[i]? = some (t, o)) :
    ∃ y, DataW.trod enc P w base spare held n t ((cs.drop o).take (P.cellsOf t)) = some y := by
  rw [← hl, List.getElem?_map] at hi
  cases hf : fs.toList[i]? with
  | none => rw [hf] at hi; cases hi
  | some f =>
    rw [hf] at hi
    simp only [Option.map_some, Option.some.injEq, Prod.mk.injEq] at hi
    obtain ⟨rfl, rfl⟩ := hi
    have hf' : fs[i]? = some f := by rw [← hf, Array.getElem?_toList]
    have := hg i f hf'
    have hlt : i < xs.length := by
      rw [hx]
      rcases Nat.lt_or_ge i fs.size with h | h
      · exact h
      · rw [Array.getElem?_eq_none h] at hf'; cases hf'
    exact ⟨_, this.trans (List.getElem?_eq_getElem hlt)⟩

theorem open_act {H : Type} {enc : TypeId × Value → H} {w : World} {base : Nat} {held : Bool} {fuel : Nat} {cs : List Value} {x : DataW H × List MemPlace}
    (h : DataW.trod enc Try.prog w base (fun _ => true) held fuel 29 cs = some x) : ∃ y : Act, ActR w 0 w.heap.size (.agg cs.toArray) y ∧ ActReach y := by
  obtain ⟨fs, hu, hfs⟩ := actFields
  obtain ⟨xs, n, _, _, hlen, hxl, hg⟩ := DataW.trod_struct hu h
  rw [cellsAct] at hlen
  obtain ⟨c0, c1, c2, c3, c4, c5, c6, rfl⟩ := list7 hlen
  have F := field_of hfs hxl hg
  obtain ⟨y0, t0⟩ := F 0 _ _ rfl
  obtain ⟨y1, t1⟩ := F 1 _ _ rfl
  obtain ⟨y2, t2⟩ := F 2 _ _ rfl
  obtain ⟨y3, t3⟩ := F 3 _ _ rfl
  obtain ⟨y4, t4⟩ := F 4 _ _ rfl
  obtain ⟨y5, t5⟩ := F 5 _ _ rfl
  obtain ⟨y6, t6⟩ := F 6 _ _ rfl
  rw [cells_int64] at t0 t1
  rw [cells_string] at t2 t3
  rw [cells_strs] at t4 t5
  rw [cells_ints] at t6
  simp only [List.drop_zero, List.drop_succ_cons, List.take_succ_cons, List.take_zero] at t0 t1 t2 t3 t4 t5 t6
  obtain ⟨k, e0, _⟩ := open_i64 Try.underlying2 t0
  obtain ⟨a, e1, _⟩ := open_i64 Try.underlying2 t1
  obtain ⟨r, e2, hr⟩ := open_str Try.underlying9 t2
  obtain ⟨l, e3, hl⟩ := open_str Try.underlying9 t3
  obtain ⟨A, ca, xa, e4, hA, ha1, ha2⟩ := open_strR Try.underlying22 Try.underlying9 cells_string t4
  obtain ⟨B, cb, xb, e5, hB, hb1, hb2⟩ := open_strR Try.underlying22 Try.underlying9 cells_string t5
  obtain ⟨C, cc, xc, e6, hC, hc1⟩ := open_intR Try.underlying27 Try.underlying2 cells_int64 t6
  simp only [List.cons.injEq, and_true] at e0 e1 e2 e3 e4 e5 e6
  subst e0 e1 e2 e3 e4 e5 e6
  exact ⟨⟨k, a, r, l, xa, xb, xc⟩, ⟨A, ca, B, cb, C, cc, rfl, hA, hB, hC⟩, hr, hl, ha1, hb1, hc1, ha2, hb2⟩


end Go.Proofs.Ytcfmgmbolnifgaa
