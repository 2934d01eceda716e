/- An argument that is a screen, opened. -/
import Derived.Test.YtmeholhmadeehaaGreatDoorJoinRFAe
import Derived.Test.YtmeholhmadeehaaGreatDoorJoinRFAt
import Derived.Test.YtmeholhmadeehaaGreatDoorJoinRFAi
namespace Go.Proofs.YtmeholhmadeehaaGreatDoor
open Go.ChangeShapes Go.WideShapes Go.ChangeAt Go.RowKit

theorem scrFields : ∃ fs, Tryz.prog.underlying 24 = some (.struct fs) ∧ fs.toList.map (fun f => (f.type, f.offset)) = [(2, 0), (2, 1), (22, 2)] := ⟨_, Tryz.underlying24, by kernel_rfl⟩
theorem cellsScr : Tryz.prog.cellsOf 24 = 3 := by kernel_rfl

theorem open_scr {H : Type} {enc : TypeId × Value → H} {w : World} {base : Nat} {held : Bool} {fuel : Nat} {cs : List Value} {x : DataW H × List MemPlace}
    (h : DataW.trod enc Tryz.prog w base (fun _ => true) held fuel 24 cs = some x) : ∃ y : Scr, ScrR w 0 w.heap.size (.agg cs.toArray) y ∧ y.rows.length ≤ 9223372036854775807 ∧ ∀ r ∈ y.rows, r.size ≤ 9223372036854775807 := by
  obtain ⟨fs, hu, hfs⟩ := scrFields
  obtain ⟨xs, n, _, _, hlen, hxl, hg⟩ := DataW.trod_struct hu h
  rw [cellsScr] at hlen
  obtain ⟨c0, c1, c2, rfl⟩ := list3 hlen
  have F := field_of hfs hxl hg
  obtain ⟨y0, t0⟩ := F 0 _ _ rfl
  obtain ⟨y1, t1⟩ := F 1 _ _ rfl
  obtain ⟨y2, t2⟩ := F 2 _ _ rfl
  rw [cells_int64] at t0 t1
  rw [cells_strs] at t2
  simp only [List.drop_zero, List.drop_succ_cons, List.take_succ_cons, List.take_zero] at t0 t1 t2
  obtain ⟨k, e0, _⟩ := open_i64 Tryz.underlying2 t0
  obtain ⟨a, e1, _⟩ := open_i64 Tryz.underlying2 t1
  obtain ⟨A, ca, xa, e2, hA, ha1, ha2⟩ := open_strR Tryz.underlying22 Tryz.underlying9 cells_string t2
  simp only [List.cons.injEq, and_true] at e0 e1 e2
  subst e0 e1 e2
  exact ⟨⟨k, a, xa⟩, ⟨A, ca, rfl, hA⟩, ha1, ha2⟩

end Go.Proofs.YtmeholhmadeehaaGreatDoor

/- An argument that is a value of devices, opened. -/
namespace Go.Proofs.YtmeholhmadeehaaGreatDoor
open Go.ChangeShapes Go.WideShapes Go.ChangeAt Go.RowKit Go.Deep

theorem list_of_each {α : Type} (d : α) (Q : Nat → α → Prop) : ∀ n : Nat, (∀ i, i < n → ∃ x, Q i x) → ∃ xs : List α, xs.length = n ∧ ∀ i, i < n → Q i (xs.getD i d)
  | 0, _ => ⟨[], rfl, fun i hi => absurd hi (by omega)⟩
  | n + 1, h => by
    obtain ⟨xs, hl, hx⟩ := list_of_each d Q n (fun i hi => h i (by omega))
    obtain ⟨y, hy⟩ := h n (by omega)
    refine ⟨xs ++ [y], by simp [hl], fun i hi => ?_⟩
    by_cases e : i < n
    · have : (xs ++ [y]).getD i d = xs.getD i d := by
        rw [List.getD_eq_getElem?_getD, List.getD_eq_getElem?_getD, List.getElem?_append_left (by omega)]
      rw [this]; exact hx i e
    · obtain rfl : i = n := by omega
      have : (xs ++ [y]).getD i d = y := by
        rw [List.getD_eq_getElem?_getD, List.getElem?_append_right (by omega), hl]; simp
      rw [this]; exact hy
theorem list4 {α : Type} {l : List α} (h : l.length = 4) : ∃ a b c d, l = [a, b, c, d] := by
  match l, h with
  | [a, b, c, d], _ => exact ⟨a, b, c, d, rfl⟩
theorem list6 {α : Type} {l : List α} (h : l.length = 6) : ∃ a b c d e f, l = [a, b, c, d, e, f] := by
  match l, h with
  | [a, b, c, d, e, f], _ => exact ⟨a, b, c, d, e, f, rfl⟩

theorem filFields : ∃ fs, Tryz.prog.underlying 89 = some (.struct fs) ∧ fs.toList.map (fun f => (f.type, f.offset)) = [(9, 0), (22, 1), (9, 2), (2, 3)] := ⟨_, Tryz.underlying89, by kernel_rfl⟩
theorem cellsFil : Tryz.prog.cellsOf 89 = 4 := by kernel_rfl
theorem devFields : ∃ fs, Tryz.prog.underlying 27 = some (.struct fs) ∧ fs.toList.map (fun f => (f.type, f.offset)) = [(2, 0), (24, 1), (25, 4), (22, 5)] := ⟨_, Tryz.underlying27, by kernel_rfl⟩
theorem cellsDev : Tryz.prog.cellsOf 27 = 6 := by kernel_rfl
theorem cells_fils : Tryz.prog.cellsOf 25 = 1 := by kernel_rfl

section
variable {H : Type} {enc : TypeId × Value → H} {w : World} {base : Nat} {held : Bool}

theorem open_fil {fuel : Nat} {cs : List Value} {x : DataW H × List MemPlace} (h : DataW.trod enc Tryz.prog w base (fun _ => true) held fuel 89 cs = some x) :
    ∃ (f : Fil) (A : Option Addr) (c : Nat), cs = [.string f.name, .slice A f.lines.length c, .string f.part, .int .i64 f.at_] ∧ StrR w 0 w.heap.size A f.lines.length f.lines ∧ FilReach f := by
  obtain ⟨fs, hu, hfs⟩ := filFields
  obtain ⟨xs, n, _, _, hlen, hxl, hg⟩ := DataW.trod_struct hu h
  rw [cellsFil] at hlen
  obtain ⟨c0, c1, c2, c3, rfl⟩ := list4 hlen
  have F := field_of hfs hxl hg
  obtain ⟨y0, t0⟩ := F 0 _ _ rfl
  obtain ⟨y1, t1⟩ := F 1 _ _ rfl
  obtain ⟨y2, t2⟩ := F 2 _ _ rfl
  obtain ⟨y3, t3⟩ := F 3 _ _ rfl
  rw [cells_string] at t0 t2
  rw [cells_strs] at t1
  rw [cells_int64] at t3
  simp only [List.drop_zero, List.drop_succ_cons, List.take_succ_cons, List.take_zero] at t0 t1 t2 t3
  obtain ⟨nm, e0, hn⟩ := open_str Tryz.underlying9 t0
  obtain ⟨A, ca, xa, e1, hA, ha1, ha2⟩ := open_strR Tryz.underlying22 Tryz.underlying9 cells_string t1
  obtain ⟨pt, e2, hp⟩ := open_str Tryz.underlying9 t2
  obtain ⟨at_, e3, _⟩ := open_i64 Tryz.underlying2 t3
  simp only [List.cons.injEq, and_true] at e0 e1 e2 e3
  subst e0 e1 e2 e3
  exact ⟨⟨nm, xa, pt, at_⟩, A, ca, rfl, hA, hn, hp, ha1, ha2⟩

theorem open_fils {fuel : Nat} {cs : List Value} {x : DataW H × List MemPlace} (h : DataW.trod enc Tryz.prog w base (fun _ => true) held fuel 25 cs = some x) :
    ∃ (A : Option Addr) (cap : Nat) (fs : List Fil), cs = [.slice A fs.length cap] ∧ FilesR w 0 w.heap.size A fs.length fs ∧ fs.length ≤ 9223372036854775807 ∧ ∀ f ∈ fs, FilReach f := by
  rcases open_slice Tryz.underlying25 h with ⟨rfl, _⟩ | ⟨a, len, cap, m, n, D, Pl, rfl, hb, hl, hm, hmm, hx, hi⟩
  · exact ⟨none, 0, [], rfl, ⟨rfl, fun h => by simp at h⟩, by simp, by simp⟩
  · simp only [if_true] at hmm
    subst hmm
    have hspot : ∀ i, i < len → (a.add (i * 4)).spot = none := by
      intro i hil
      obtain ⟨cs', hc, ht'⟩ := hi i (by omega)
      rw [cellsFil] at hc
      obtain ⟨_, hl0, hat0⟩ := World.cells?_some hc
      obtain ⟨x0, x1, x2, x3, rfl⟩ := list4 hl0
      have h00 := hat0 0 (by omega)
      rw [List.getElem?_cons_zero] at h00
      have := (block_of_cell h00).2
      generalize a.add (i * 4) = b at *
      rcases b with ⟨ab, ao, _ | s⟩
      · rfl
      · simp [Addr.add] at this
    have each : ∀ i, i < len → ∃ f : Fil, FilReach f ∧ a.spot = none ∧ a.block < w.heap.size ∧ FilAt w 0 w.heap.size a.block (a.off + i * 4) f := by
      intro i hil
      obtain ⟨cs', hc, ht'⟩ := hi i (by omega)
      rw [cellsFil] at hc
      obtain ⟨f, L, c, rfl, hL, hr⟩ := open_fil ht'
      obtain ⟨_, _, hat⟩ := World.cells?_some hc
      have h0 := hat 0 (by omega)
      have h1 := hat 1 (by omega)
      have h2 := hat 2 (by omega)
      have h3 := hat 3 (by omega)
      simp only [List.getElem?_cons_zero, List.getElem?_cons_succ] at h0 h1 h2 h3
      have hbc := block_of_cell h0
      have hsp : a.spot = none := by
        have this := hspot 0 (by omega)
        rw [Nat.zero_mul] at this
        rcases a with ⟨ab, ao, _ | s⟩
        · rfl
        · simp [Addr.add] at this
      obtain ⟨ab, ao, asp⟩ := a
      simp only at hsp
      subst hsp
      have hadd : ∀ o j, (⟨ab, o, none⟩ : Addr).add j = ⟨ab, o + j, none⟩ := fun o j => by unfold Addr.add; split <;> simp_all
      rw [hadd, hadd] at h0 h1 h2 h3
      rw [hadd, hadd] at hbc
      exact ⟨f, hr, rfl, hbc.1, L, c, h0, h1, h2, h3, hL⟩
    obtain ⟨fs, hfl, hfs⟩ := list_of_each filD (fun i f => FilReach f ∧ a.spot = none ∧ a.block < w.heap.size ∧ FilAt w 0 w.heap.size a.block (a.off + i * 4) f) len each
    refine ⟨some a, _, fs, by rw [hfl], ⟨rfl, fun hpos => ?_⟩, by unfold maxLen at hm; omega, fun f hf => ?_⟩
    · obtain ⟨_, hsp, hlt, _⟩ := hfs 0 (by omega)
      obtain ⟨ab, ao, asp⟩ := a
      simp only at hsp
      subst hsp
      exact ⟨ab, ao, rfl, by omega, hlt, fun j hj => (hfs j (by omega)).2.2.2⟩
    · obtain ⟨j, hj, e⟩ := List.getElem_of_mem hf
      have := (hfs j (by omega)).1
      rw [List.getD_eq_getElem?_getD, List.getElem?_eq_getElem hj] at this
      rw [← e]; exact this

theorem open_dev {fuel : Nat} {cs : List Value} {x : DataW H × List MemPlace} (h : DataW.trod enc Tryz.prog w base (fun _ => true) held fuel 27 cs = some x) :
    ∃ y : Dev, DevR w 0 w.heap.size (.agg cs.toArray) y ∧ DevReach y := by
  obtain ⟨fs, hu, hfs⟩ := devFields
  obtain ⟨xs, n, _, _, hlen, hxl, hg⟩ := DataW.trod_struct hu h
  rw [cellsDev] at hlen
  obtain ⟨c0, c1, c2, c3, c4, c5, rfl⟩ := list6 hlen
  have F := field_of hfs hxl hg
  obtain ⟨y0, t0⟩ := F 0 _ _ rfl
  obtain ⟨y1, t1⟩ := F 1 _ _ rfl
  obtain ⟨y2, t2⟩ := F 2 _ _ rfl
  obtain ⟨y3, t3⟩ := F 3 _ _ rfl
  rw [cells_int64] at t0
  rw [cellsScr] at t1
  rw [cells_fils] at t2
  rw [cells_strs] at t3
  simp only [List.drop_zero, List.drop_succ_cons, List.take_succ_cons, List.take_zero] at t0 t1 t2 t3
  obtain ⟨use, e0, _⟩ := open_i64 Tryz.underlying2 t0
  obtain ⟨s, ⟨A, ca, e1, hA⟩, hs⟩ := open_scr t1
  obtain ⟨B, cb, fs', e2, hB, hb1, hb2⟩ := open_fils t2
  obtain ⟨C, cc, ks, e3, hC, hc1, hc2⟩ := open_strR Tryz.underlying22 Tryz.underlying9 cells_string t3
  simp only [List.cons.injEq, and_true] at e0 e2 e3
  simp only [Value.agg.injEq] at e1
  have e1' : [c1, c2, c3] = [Value.int .i64 s.row, .int .i64 s.col, .slice A s.rows.length ca] := by
    have := congrArg Array.toList e1
    simpa using this
  simp only [List.cons.injEq, and_true] at e1'
  obtain ⟨e10, e11, e12⟩ := e1'
  subst e0 e2 e3 e10 e11 e12
  exact ⟨⟨use, s, fs', ks⟩, ⟨A, ca, B, cb, C, cc, rfl, hA, hB, hC⟩, hs, ⟨hb1, hb2⟩, hc1, hc2⟩
end

end Go.Proofs.YtmeholhmadeehaaGreatDoor
