/- An argument that is an operation of two sites, opened, with what its numbers are. -/
import Derived.Test.YtcjaaknnfohllaaGreatDoorOpenAct
import Derived.Test.YtcjaaknnfohllaaGreatDoorSatQ
namespace Go.Proofs.YtcjaaknnfohllaaGreatDoor
open Go.ChangeShapes Go.WideShapes Go.ChangeAt Go.RowKit

section
variable {H : Type} {enc : TypeId × Value → H} {P : Program} {w : World} {base : Nat} {held : Bool}
theorem open_intM {t e : TypeId} {fuel : Nat} {cs : List Value} {x : DataW H × List MemPlace} (ht : P.underlying t = some (.slice e)) (he : P.underlying e = some (.int .i64)) (hc : P.cellsOf e = 1)
    (h : DataW.trod enc P w base (fun _ => true) held fuel t cs = some x) :
    ∃ (A : Option Addr) (cap : Nat) (xs : List Int), cs = [.slice A xs.length cap] ∧ IntR w 0 w.heap.size A xs.length xs ∧ xs.length ≤ 9223372036854775807 ∧ ∀ z ∈ xs, z ≤ 9223372036854775807 := by
  rcases open_ints ht he hc h with ⟨rfl, _⟩ | ⟨a, len, cap, ss, rfl, _, hl, hm, hz, _, hcell, hws⟩
  · exact ⟨none, 0, [], rfl, ⟨rfl, fun h => by simp at h⟩, by simp, by simp⟩
  · simp only [if_true] at hz
    have hlen : (ss.take len).length = len := by rw [List.length_take]; omega
    refine ⟨some a, cap, ss.take len, by rw [hlen], ⟨rfl, fun hpos => ?_⟩, by rw [hlen]; unfold maxLen at hm; omega, fun z hz' => ?_⟩
    · rw [hlen] at hpos
      have h0 := block_of_cell (hcell 0 (by omega))
      have ha : a.add 0 = a := by simp [Addr.add]
      rw [ha] at h0
      obtain ⟨ab, ao, asp⟩ := a
      obtain ⟨h1, h2⟩ := h0
      simp only at h1 h2
      subst h2
      refine ⟨ab, ao, rfl, by omega, h1, fun j hj => ?_⟩
      rw [hlen] at hj
      have hj' := hcell j (by omega)
      have hadd : (⟨ab, ao, none⟩ : Addr).add j = ⟨ab, ao + j, none⟩ := by unfold Addr.add; split <;> simp_all
      rw [hadd] at hj'
      rw [hj']
      simp [List.getD_eq_getElem?_getD, hj]
    · have h2 := hws z (List.mem_of_mem_take hz')
      simp [Lit.wf, IntKind.min, IntKind.max, IntKind.signed, IntKind.bits] at h2
      omega
end

theorem open_actM {H : Type} {enc : TypeId × Value → H} {w : World} {base : Nat} {held : Bool} {fuel : Nat} {cs : List Value} {x : DataW H × List MemPlace}
    (h : DataW.trod enc Tryz.prog w base (fun _ => true) held fuel 25 cs = some x) : ∃ y : Act, ActR w 0 w.heap.size (.agg cs.toArray) y ∧ ActReach y ∧ KeepMax y := by
  obtain ⟨fs, hu, hfs⟩ := actFields
  obtain ⟨xs, n, _, _, hlen, hxl, hg⟩ := DataW.trod_struct hu h
  rw [cellsAct] at hlen
  obtain ⟨c0, c1, c2, c3, c4, c5, c6, rfl⟩ := list7 hlen
  have F := field_of hfs hxl hg
  obtain ⟨y0, t0⟩ := F 0 _ _ rfl
  obtain ⟨y1, t1⟩ := F 1 _ _ rfl
  obtain ⟨y2, t2⟩ := F 2 _ _ rfl
  obtain ⟨y3, t3⟩ := F 3 _ _ rfl
  obtain ⟨y4, t4⟩ := F 4 _ _ rfl
  obtain ⟨y5, t5⟩ := F 5 _ _ rfl
  obtain ⟨y6, t6⟩ := F 6 _ _ rfl
  rw [cells_int64] at t0 t1
  rw [cells_string] at t2 t3
  rw [cells_strs] at t4 t5
  rw [cells_ints] at t6
  simp only [List.drop_zero, List.drop_succ_cons, List.take_succ_cons, List.take_zero] at t0 t1 t2 t3 t4 t5 t6
  obtain ⟨k, e0, _⟩ := open_i64 Tryz.underlying2 t0
  obtain ⟨a, e1, _⟩ := open_i64 Tryz.underlying2 t1
  obtain ⟨r, e2, hr⟩ := open_str Tryz.underlying9 t2
  obtain ⟨l, e3, hl⟩ := open_str Tryz.underlying9 t3
  obtain ⟨A, ca, xa, e4, hA, ha1, ha2⟩ := open_strR Tryz.underlying22 Tryz.underlying9 cells_string t4
  obtain ⟨B, cb, xb, e5, hB, hb1, hb2⟩ := open_strR Tryz.underlying22 Tryz.underlying9 cells_string t5
  obtain ⟨C, cc, xc, e6, hC, hc1, hc2⟩ := open_intM Tryz.underlying23 Tryz.underlying2 cells_int64 t6
  simp only [List.cons.injEq, and_true] at e0 e1 e2 e3 e4 e5 e6
  subst e0 e1 e2 e3 e4 e5 e6
  exact ⟨⟨k, a, r, l, xa, xb, xc⟩, ⟨A, ca, B, cb, C, cc, rfl, hA, hB, hC⟩, ⟨hr, hl, ha1, hb1, hc1, ha2, hb2⟩, hc2⟩

theorem sactFields : ∃ fs, Tryz.prog.underlying 27 = some (.struct fs) ∧ fs.toList.map (fun f => (f.type, f.offset)) = [(2, 0), (2, 1), (25, 2)] := ⟨_, Tryz.underlying27, by kernel_rfl⟩
theorem cellsSAct : Tryz.prog.cellsOf 27 = 9 := by kernel_rfl

theorem two_first {α : Type} {l : List α} (h : 2 ≤ l.length) : ∃ a b t, l = a :: b :: t := by
  cases l with
  | nil => simp at h
  | cons a l =>
    cases l with
    | nil => simp at h
    | cons b t => exact ⟨a, b, t, rfl⟩
theorem agg_two {l : List Value} {c : Array Value} (a b : Value) (h : Value.agg l.toArray = Value.agg c) : Value.agg (a :: b :: l).toArray = Value.agg (a :: b :: c.toList).toArray := by
  have h1 := Value.agg.inj h
  subst h1
  rfl

theorem open_sactM {H : Type} {enc : TypeId × Value → H} {w : World} {base : Nat} {held : Bool} {fuel : Nat} {cs : List Value} {x : DataW H × List MemPlace}
    (h : DataW.trod enc Tryz.prog w base (fun _ => true) held fuel 27 cs = some x) : ∃ (kind at_ : Int) (y : Act), SActR w 0 w.heap.size (.agg cs.toArray) kind at_ y ∧ ActReach y ∧ KeepMax y := by
  obtain ⟨fs, hu, hfs⟩ := sactFields
  obtain ⟨xs, n, _, _, hlen, hxl, hg⟩ := DataW.trod_struct hu h
  rw [cellsSAct] at hlen
  obtain ⟨a0, a1, l7, rfl⟩ := two_first (l := cs) (by omega)
  have F := field_of hfs hxl hg
  obtain ⟨y0, t0⟩ := F 0 _ _ rfl
  obtain ⟨y1, t1⟩ := F 1 _ _ rfl
  obtain ⟨y2, t2⟩ := F 2 _ _ rfl
  rw [cells_int64] at t0 t1
  rw [cellsAct] at t2
  have hl7 : l7.length = 7 := by simpa using hlen
  simp only [List.drop_zero, List.drop_succ_cons, List.take_succ_cons, List.take_zero] at t0 t1 t2
  rw [List.take_of_length_le (by omega)] at t2
  obtain ⟨kind, e0, _⟩ := open_i64 Tryz.underlying2 t0
  obtain ⟨at_, e1, _⟩ := open_i64 Tryz.underlying2 t1
  simp only [List.cons.injEq, and_true] at e0 e1
  subst e0 e1
  obtain ⟨y, ⟨A, c, B, d, C, e, hv, h1, h2, h3⟩, hr, hk⟩ := open_actM t2
  refine ⟨kind, at_, y, ⟨A, c, B, d, C, e, ?_, h1, h2, h3⟩, hr, hk⟩
  exact agg_two _ _ hv
end Go.Proofs.YtcjaaknnfohllaaGreatDoor
