/- From the row's reading of an argument to the words of Mem: texts, lists of texts, lists of numbers, structs. -/
import Derived.Test.YtcfmgmbolnifgaaJoinUAp
import Derived.Test.YtcfmgmbolnifgaaJoinUAa
import Derived.SliceStrings
import Derived.Test.YtcfmgmbolnifgaaJoinUAb
import Derived.Test.YtcfmgmbolnifgaaJoinUAe
namespace Go.Proofs.Ytcfmgmbolnifgaa
open Go.ChangeShapes Go.WideShapes Go.ChangeAt Go.RowKit

theorem block_of_cell {w : World} {a : Addr} {v : Value} (h : w.cell? a = some v) : a.block < w.heap.size ∧ a.spot = none := by
  unfold World.cell? at h
  split at h
  · rename_i c t f heq
    constructor
    · rcases Nat.lt_or_ge a.block w.heap.size with hlt | hge
      · exact hlt
      · rw [Array.getElem?_eq_none hge] at heq; cases heq
    · split at h
      · cases h
      · rename_i hs; simpa using hs
  · cases h

section
variable {H : Type} {enc : TypeId × Value → H} {P : Program} {w : World} {base : Nat} {held : Bool}

theorem open_strR {t e : TypeId} {fuel : Nat} {cs : List Value} {x : DataW H × List MemPlace} (ht : P.underlying t = some (.slice e)) (he : P.underlying e = some .string) (hc : P.cellsOf e = 1)
    (h : DataW.trod enc P w base (fun _ => true) held fuel t cs = some x) :
    ∃ (A : Option Addr) (cap : Nat) (xs : List ByteArray), cs = [.slice A xs.length cap] ∧ StrR w 0 w.heap.size A xs.length xs ∧ xs.length ≤ 9223372036854775807 ∧ ∀ s ∈ xs, s.size ≤ 9223372036854775807 := by
  rcases open_strings ht he hc h with ⟨rfl, _⟩ | ⟨a, len, cap, ss, rfl, _, hl, hm, hz, _, hcell, hws⟩
  · exact ⟨none, 0, [], rfl, ⟨rfl, fun h => by simp at h⟩, by simp, by simp⟩
  · simp only [if_true] at hz
    have hlen : (ss.take len).length = len := by rw [List.length_take]; omega
    refine ⟨some a, cap, ss.take len, by rw [hlen], ⟨rfl, fun hpos => ?_⟩, by rw [hlen]; unfold maxLen at hm; omega, fun s hs => by have := hws s (List.mem_of_mem_take hs); unfold maxLen at this; omega⟩
    rw [hlen] at hpos
    have h0 := block_of_cell (hcell 0 (by omega))
    have ha : a.add 0 = a := by simp [Addr.add]
    rw [ha] at h0
    obtain ⟨ab, ao, asp⟩ := a
    obtain ⟨h1, h2⟩ := h0
    simp only at h1 h2
    subst h2
    refine ⟨ab, ao, rfl, by omega, h1, fun j hj => ?_⟩
    rw [hlen] at hj
    have hj' := hcell j (by omega)
    have hadd : (⟨ab, ao, none⟩ : Addr).add j = ⟨ab, ao + j, none⟩ := by unfold Addr.add; split <;> simp_all
    rw [hadd] at hj'
    rw [hj']
    simp [List.getD_eq_getElem?_getD, hj]

theorem open_intR {t e : TypeId} {fuel : Nat} {cs : List Value} {x : DataW H × List MemPlace} (ht : P.underlying t = some (.slice e)) (he : P.underlying e = some (.int .i64)) (hc : P.cellsOf e = 1)
    (h : DataW.trod enc P w base (fun _ => true) held fuel t cs = some x) :
    ∃ (A : Option Addr) (cap : Nat) (xs : List Int), cs = [.slice A xs.length cap] ∧ IntR w 0 w.heap.size A xs.length xs ∧ xs.length ≤ 9223372036854775807 := by
  rcases open_ints ht he hc h with ⟨rfl, _⟩ | ⟨a, len, cap, ss, rfl, _, hl, hm, hz, _, hcell, hws⟩
  · exact ⟨none, 0, [], rfl, ⟨rfl, fun h => by simp at h⟩, by simp⟩
  · simp only [if_true] at hz
    have hlen : (ss.take len).length = len := by rw [List.length_take]; omega
    refine ⟨some a, cap, ss.take len, by rw [hlen], ⟨rfl, fun hpos => ?_⟩, by rw [hlen]; unfold maxLen at hm; omega⟩
    rw [hlen] at hpos
    have h0 := block_of_cell (hcell 0 (by omega))
    have ha : a.add 0 = a := by simp [Addr.add]
    rw [ha] at h0
    obtain ⟨ab, ao, asp⟩ := a
    obtain ⟨h1, h2⟩ := h0
    simp only at h1 h2
    subst h2
    refine ⟨ab, ao, rfl, by omega, h1, fun j hj => ?_⟩
    rw [hlen] at hj
    have hj' := hcell j (by omega)
    have hadd : (⟨ab, ao, none⟩ : Addr).add j = ⟨ab, ao + j, none⟩ := by unfold Addr.add; split <;> simp_all
    rw [hadd] at hj'
    rw [hj']
    simp [List.getD_eq_getElem?_getD, hj]

theorem open_str {t : TypeId} {fuel : Nat} {cs : List Value} {x : DataW H × List MemPlace} (ht : P.underlying t = some .string) (h : DataW.trod enc P w base (fun _ => true) held fuel t cs = some x) :
    ∃ s : ByteArray, cs = [.string s] ∧ s.size ≤ 9223372036854775807 := by
  obtain ⟨s, h1, _, h2⟩ := DataW.trod_string ht h
  exact ⟨s, h1, by unfold maxLen at h2; exact h2⟩

theorem open_i64 {t : TypeId} {fuel : Nat} {cs : List Value} {x : DataW H × List MemPlace} (ht : P.underlying t = some (.int .i64)) (h : DataW.trod enc P w base (fun _ => true) held fuel t cs = some x) :
    ∃ n : Int, cs = [.int .i64 n] ∧ -9223372036854775808 ≤ n ∧ n ≤ 9223372036854775807 := by
  obtain ⟨n, h1, _, h2⟩ := DataW.trod_int ht h
  refine ⟨n, h1, ?_⟩
  simp [Lit.wf, IntKind.min, IntKind.max, IntKind.signed, IntKind.bits] at h2
  exact ⟨by omega, by omega⟩

/-- A list is its parts. -/
theorem list7 {α : Type} {l : List α} (h : l.length = 7) : ∃ a b c d e f g, l = [a, b, c, d, e, f, g] := by
  match l, h with
  | [a, b, c, d, e, f, g], _ => exact ⟨a, b, c, d, e, f, g, rfl⟩
theorem list3 {α : Type} {l : List α} (h : l.length = 3) : ∃ a b c, l = [a, b, c] := by
  match l, h with
  | [a, b, c], _ => exact ⟨a, b, c, rfl⟩
end

end Go.Proofs.Ytcfmgmbolnifgaa

/- An argument that is an operation of a site, opened. -/
namespace Go.Proofs.Ytcfmgmbolnifgaa
open Go.ChangeShapes Go.WideShapes Go.ChangeAt Go.RowKit

theorem actFields : ∃ fs, Try.prog.underlying 29 = some (.struct fs) ∧ fs.toList.map (fun f => (f.type, f.offset)) = [(2, 0), (2, 1), (9, 2), (9, 3), (22, 4), (22, 5), (27, 6)] := ⟨_, Try.underlying29, by kernel_rfl⟩
theorem cellsAct : Try.prog.cellsOf 29 = 7 := by kernel_rfl
theorem cells_int64 : Try.prog.cellsOf 2 = 1 := by kernel_rfl
theorem cells_string : Try.prog.cellsOf 9 = 1 := by kernel_rfl
theorem cells_strs : Try.prog.cellsOf 22 = 1 := by kernel_rfl
theorem cells_ints : Try.prog.cellsOf 27 = 1 := by kernel_rfl

theorem field_of {H : Type} {enc : TypeId × Value → H} {P : Program} {w : World} {base : Nat} {spare : Nat → Bool} {held : Bool} {n : Nat} {cs : List Value} {xs : List (DataW H × List MemPlace)} {fs : Array Field} {l : List (TypeId × Nat)}
    (hl : fs.toList.map (fun f => (f.type, f.offset)) = l) (hx : xs.length = fs.size)
    (hg : ∀ (i : Nat) (f : Field), fs[i]? = some f → DataW.trod enc P w base spare held n f.type ((cs.drop f.offset).take (P.cellsOf f.type)) = xs[i]?) (i : Nat) (t : TypeId) (o : Nat) (hi : l[i]? = some (t, o)) :
    ∃ y, DataW.trod enc P w base spare held n t ((cs.drop o).take (P.cellsOf t)) = some y := by
  rw [← hl, List.getElem?_map] at hi
  cases hf : fs.toList[i]? with
  | none => rw [hf] at hi; cases hi
  | some f =>
    rw [hf] at hi
    simp only [Option.map_some, Option.some.injEq, Prod.mk.injEq] at hi
    obtain ⟨rfl, rfl⟩ := hi
    have hf' : fs[i]? = some f := by rw [← hf, Array.getElem?_toList]
    have := hg i f hf'
    have hlt : i < xs.length := by
      rw [hx]
      rcases Nat.lt_or_ge i fs.size with h | h
      · exact h
      · rw [Array.getElem?_eq_none h] at hf'; cases hf'
    exact ⟨_, this.trans (List.getElem?_eq_getElem hlt)⟩

theorem open_act {H : Type} {enc : TypeId × Value → H} {w : World} {base : Nat} {held : Bool} {fuel : Nat} {cs : List Value} {x : DataW H × List MemPlace}
    (h : DataW.trod enc Try.prog w base (fun _ => true) held fuel 29 cs = some x) : ∃ y : Act, ActR w 0 w.heap.size (.agg cs.toArray) y ∧ ActReach y := by
  obtain ⟨fs, hu, hfs⟩ := actFields
  obtain ⟨xs, n, _, _, hlen, hxl, hg⟩ := DataW.trod_struct hu h
  rw [cellsAct] at hlen
  obtain ⟨c0, c1, c2, c3, c4, c5, c6, rfl⟩ := list7 hlen
  have F := field_of hfs hxl hg
  obtain ⟨y0, t0⟩ := F 0 _ _ rfl
  obtain ⟨y1, t1⟩ := F 1 _ _ rfl
  obtain ⟨y2, t2⟩ := F 2 _ _ rfl
  obtain ⟨y3, t3⟩ := F 3 _ _ rfl
  obtain ⟨y4, t4⟩ := F 4 _ _ rfl
  obtain ⟨y5, t5⟩ := F 5 _ _ rfl
  obtain ⟨y6, t6⟩ := F 6 _ _ rfl
  rw [cells_int64] at t0 t1
  rw [cells_string] at t2 t3
  rw [cells_strs] at t4 t5
  rw [cells_ints] at t6
  simp only [List.drop_zero, List.drop_succ_cons, List.take_succ_cons, List.take_zero] at t0 t1 t2 t3 t4 t5 t6
  obtain ⟨k, e0, _⟩ := open_i64 Try.underlying2 t0
  obtain ⟨a, e1, _⟩ := open_i64 Try.underlying2 t1
  obtain ⟨r, e2, hr⟩ := open_str Try.underlying9 t2
  obtain ⟨l, e3, hl⟩ := open_str Try.underlying9 t3
  obtain ⟨A, ca, xa, e4, hA, ha1, ha2⟩ := open_strR Try.underlying22 Try.underlying9 cells_string t4
  obtain ⟨B, cb, xb, e5, hB, hb1, hb2⟩ := open_strR Try.underlying22 Try.underlying9 cells_string t5
  obtain ⟨C, cc, xc, e6, hC, hc1⟩ := open_intR Try.underlying27 Try.underlying2 cells_int64 t6
  simp only [List.cons.injEq, and_true] at e0 e1 e2 e3 e4 e5 e6
  subst e0 e1 e2 e3 e4 e5 e6
  exact ⟨⟨k, a, r, l, xa, xb, xc⟩, ⟨A, ca, B, cb, C, cc, rfl, hA, hB, hC⟩, hr, hl, ha1, hb1, hc1, ha2, hb2⟩


end Go.Proofs.Ytcfmgmbolnifgaa

/- An argument that is a screen, opened. -/
namespace Go.Proofs.Ytcfmgmbolnifgaa
open Go.ChangeShapes Go.WideShapes Go.ChangeAt Go.RowKit

theorem scrFields : ∃ fs, Try.prog.underlying 46 = some (.struct fs) ∧ fs.toList.map (fun f => (f.type, f.offset)) = [(2, 0), (2, 1), (22, 2)] := ⟨_, Try.underlying46, by kernel_rfl⟩
theorem cellsScr : Try.prog.cellsOf 46 = 3 := by kernel_rfl

theorem open_scr {H : Type} {enc : TypeId × Value → H} {w : World} {base : Nat} {held : Bool} {fuel : Nat} {cs : List Value} {x : DataW H × List MemPlace}
    (h : DataW.trod enc Try.prog w base (fun _ => true) held fuel 46 cs = some x) : ∃ y : Scr, ScrR w 0 w.heap.size (.agg cs.toArray) y ∧ y.rows.length ≤ 9223372036854775807 ∧ ∀ r ∈ y.rows, r.size ≤ 9223372036854775807 := by
  obtain ⟨fs, hu, hfs⟩ := scrFields
  obtain ⟨xs, n, _, _, hlen, hxl, hg⟩ := DataW.trod_struct hu h
  rw [cellsScr] at hlen
  obtain ⟨c0, c1, c2, rfl⟩ := list3 hlen
  have F := field_of hfs hxl hg
  obtain ⟨y0, t0⟩ := F 0 _ _ rfl
  obtain ⟨y1, t1⟩ := F 1 _ _ rfl
  obtain ⟨y2, t2⟩ := F 2 _ _ rfl
  rw [cells_int64] at t0 t1
  rw [cells_strs] at t2
  simp only [List.drop_zero, List.drop_succ_cons, List.take_succ_cons, List.take_zero] at t0 t1 t2
  obtain ⟨k, e0, _⟩ := open_i64 Try.underlying2 t0
  obtain ⟨a, e1, _⟩ := open_i64 Try.underlying2 t1
  obtain ⟨A, ca, xa, e2, hA, ha1, ha2⟩ := open_strR Try.underlying22 Try.underlying9 cells_string t2
  simp only [List.cons.injEq, and_true] at e0 e1 e2
  subst e0 e1 e2
  exact ⟨⟨k, a, xa⟩, ⟨A, ca, rfl, hA⟩, ha1, ha2⟩

end Go.Proofs.Ytcfmgmbolnifgaa
