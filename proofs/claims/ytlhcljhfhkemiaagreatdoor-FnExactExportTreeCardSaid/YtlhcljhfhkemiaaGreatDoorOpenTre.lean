/- An argument that is a tree, opened. -/
import Derived.Test.YtlhcljhfhkemiaaGreatDoorTreD
import Derived.Test.YtlhcljhfhkemiaaGreatDoorOpenNod
namespace Go.Proofs.YtlhcljhfhkemiaaGreatDoor
open Go.ChangeShapes Go.WideShapes Go.ChangeAt Go.RowKit Go.Deep

theorem list_of_eachN {α : Type} (d : α) (Q : Nat → α → Prop) : ∀ n : Nat, (∀ i, i < n → ∃ x, Q i x) → ∃ xs : List α, xs.length = n ∧ ∀ i, i < n → Q i (xs.getD i d)
  | 0, _ => ⟨[], rfl, fun i hi => absurd hi (by omega)⟩
  | n + 1, h => by
    obtain ⟨xs, hl, hx⟩ := list_of_eachN d Q n (fun i hi => h i (by omega))
    obtain ⟨y, hy⟩ := h n (by omega)
    refine ⟨xs ++ [y], by simp [hl], fun i hi => ?_⟩
    by_cases e : i < n
    · have : (xs ++ [y]).getD i d = xs.getD i d := by
        rw [List.getD_eq_getElem?_getD, List.getD_eq_getElem?_getD, List.getElem?_append_left (by omega)]
      rw [this]; exact hx i e
    · obtain rfl : i = n := by omega
      have : (xs ++ [y]).getD i d = y := by
        rw [List.getD_eq_getElem?_getD, List.getElem?_append_right (by omega), hl]; simp
      rw [this]; exact hy
theorem treFields : ∃ fs, Tryz.prog.underlying 33 = some (.struct fs) ∧ fs.toList.map (fun f => (f.type, f.offset)) = [(31, 0)] := ⟨_, Tryz.underlying33, by kernel_rfl⟩
theorem cellsTre : Tryz.prog.cellsOf 33 = 1 := by kernel_rfl
theorem cells_nods : Tryz.prog.cellsOf 31 = 1 := by kernel_rfl

section
variable {H : Type} {enc : TypeId × Value → H} {w : World} {base : Nat} {held : Bool}
theorem open_nods {fuel : Nat} {cs : List Value} {x : DataW H × List MemPlace} (h : DataW.trod enc Tryz.prog w base (fun _ => true) held fuel 31 cs = some x) :
    ∃ (A : Option Addr) (cap : Nat) (fs : List Nod), cs = [.slice A fs.length cap] ∧ NodesR w 0 w.heap.size A fs.length fs ∧ fs.length ≤ 9223372036854775807 ∧ ∀ f ∈ fs, NodReach f := by
  rcases open_slice Tryz.underlying31 h with ⟨rfl, _⟩ | ⟨a, len, cap, m, n, D, Pl, rfl, hb, hl, hm, hmm, hx, hi⟩
  · exact ⟨none, 0, [], rfl, ⟨rfl, fun h => by simp at h⟩, by simp, by simp⟩
  · simp only [if_true] at hmm
    subst hmm
    have hspot : ∀ i, i < len → (a.add (i * 3)).spot = none := by
      intro i hil
      obtain ⟨cs', hc, ht'⟩ := hi i (by omega)
      rw [cellsNod] at hc
      obtain ⟨_, hl0, hat0⟩ := World.cells?_some hc
      obtain ⟨x0, x1, x2, rfl⟩ := list3 hl0
      have h00 := hat0 0 (by omega)
      rw [List.getElem?_cons_zero] at h00
      have := (block_of_cell h00).2
      generalize a.add (i * 3) = b at *
      rcases b with ⟨ab, ao, _ | s⟩
      · rfl
      · simp [Addr.add] at this
    have each : ∀ i, i < len → ∃ f : Nod, NodReach f ∧ a.spot = none ∧ a.block < w.heap.size ∧ NodAt w 0 w.heap.size a.block (a.off + i * 3) f := by
      intro i hil
      obtain ⟨cs', hc, ht'⟩ := hi i (by omega)
      rw [cellsNod] at hc
      obtain ⟨f, L, c, rfl, hL, hr⟩ := open_nod ht'
      obtain ⟨_, _, hat⟩ := World.cells?_some hc
      have h0 := hat 0 (by omega)
      have h1 := hat 1 (by omega)
      have h2 := hat 2 (by omega)
      simp only [List.getElem?_cons_zero, List.getElem?_cons_succ] at h0 h1 h2
      have hbc := block_of_cell h0
      have hsp : a.spot = none := by
        have this := hspot 0 (by omega)
        rw [Nat.zero_mul] at this
        rcases a with ⟨ab, ao, _ | s⟩
        · rfl
        · simp [Addr.add] at this
      obtain ⟨ab, ao, asp⟩ := a
      simp only at hsp
      subst hsp
      have hadd : ∀ o j, (⟨ab, o, none⟩ : Addr).add j = ⟨ab, o + j, none⟩ := fun o j => by unfold Addr.add; split <;> simp_all
      rw [hadd, hadd] at h0 h1 h2
      rw [hadd, hadd] at hbc
      exact ⟨f, hr, rfl, hbc.1, L, c, h0, h1, h2, hL⟩
    obtain ⟨fs, hfl, hfs⟩ := list_of_eachN nodD (fun i f => NodReach f ∧ a.spot = none ∧ a.block < w.heap.size ∧ NodAt w 0 w.heap.size a.block (a.off + i * 3) f) len each
    refine ⟨some a, _, fs, by rw [hfl], ⟨rfl, fun hpos => ?_⟩, by unfold maxLen at hm; omega, fun f hf => ?_⟩
    · obtain ⟨_, hsp, hlt, _⟩ := hfs 0 (by omega)
      obtain ⟨ab, ao, asp⟩ := a
      simp only at hsp
      subst hsp
      exact ⟨ab, ao, rfl, by omega, hlt, fun j hj => (hfs j (by omega)).2.2.2⟩
    · obtain ⟨j, hj, e⟩ := List.getElem_of_mem hf
      have := (hfs j (by omega)).1
      rw [List.getD_eq_getElem?_getD, List.getElem?_eq_getElem hj] at this
      rw [← e]; exact this


theorem open_tre {fuel : Nat} {cs : List Value} {x : DataW H × List MemPlace} (h : DataW.trod enc Tryz.prog w base (fun _ => true) held fuel 33 cs = some x) :
    ∃ y : List Nod, TreR w 0 w.heap.size (.agg cs.toArray) y ∧ NodsReach y := by
  obtain ⟨fs, hu, hfs⟩ := treFields
  obtain ⟨xs, n, _, _, hlen, hxl, hg⟩ := DataW.trod_struct hu h
  rw [cellsTre] at hlen
  obtain ⟨c0, rfl⟩ := List.length_eq_one_iff.1 hlen
  have F := field_of hfs hxl hg
  obtain ⟨y0, t0⟩ := F 0 _ _ rfl
  rw [cells_nods] at t0
  simp only [List.drop_zero, List.take_succ_cons, List.take_zero] at t0
  obtain ⟨B, cb, ns, e2, hB, hb1, hb2⟩ := open_nods t0
  simp only [List.cons.injEq, and_true] at e2
  subst e2
  exact ⟨ns, ⟨B, cb, rfl, hB⟩, hb1, hb2⟩
end
end Go.Proofs.YtlhcljhfhkemiaaGreatDoor
