/- An argument that came in, opened as a shape: texts, numbers, truth values, slices, structs; over any program. -/
import Derived.Test.YtlodlplfmpikjaaGreatShc
import Derived.Test.YtlodlplfmpikjaaGreatOpenCells
import Derived.Deep.Slices
namespace Go.Proofs.YtlodlplfmpikjaaGreat
open Go.ChangeShapes Go.WideShapes Go.ChangeAt Go.RowKit Go.Deep

section
variable {H : Type} {enc : TypeId × Value → H} {P : Program} {w : World} {base : Nat} {held : Bool} {α β : Type} {s : Sh α} {s' : Sh β} {t : TypeId}

/-- What came in at type t reads as a value of the shape s. -/
structure Opn (enc : TypeId × Value → H) (P : Program) (w : World) (base : Nat) (held : Bool) (t : TypeId) (s : Sh α) : Prop where
  cells : P.cellsOf t = s.k
  opn : ∀ {fuel : Nat} {cs : List Value} {x : DataW H × List MemPlace}, DataW.trod enc P w base (fun _ => true) held fuel t cs = some x → ∃ y, s.R w 0 w.heap.size cs y ∧ s.fit 9223372036854775807 y

/-- The fields l, the first of them at cell o, read as s. -/
def OpnF (enc : TypeId × Value → H) (P : Program) (w : World) (base : Nat) (held : Bool) (l : List (TypeId × Nat)) (o : Nat) (s : Sh α) : Prop :=
  ∀ cs : List Value, cs.length = o + s.k → (∀ (i : Nat) (t : TypeId) (o' : Nat), l[i]? = some (t, o') → ∃ n x, DataW.trod enc P w base (fun _ => true) held n t ((cs.drop o').take (P.cellsOf t)) = some x) →
    ∃ y, s.R w 0 w.heap.size (cs.drop o) y ∧ s.fit 9223372036854775807 y

theorem opnF_one (o : Nat) (h : Opn enc P w base held t s) : OpnF enc P w base held [(t, o)] o s := fun cs hl hf => by
  obtain ⟨n, x, hx⟩ := hf 0 t o rfl
  rw [h.cells, List.take_of_length_le (by simp; omega)] at hx
  exact h.opn hx
theorem opnF_cons {l : List (TypeId × Nat)} {o o' : Nat} (h : Opn enc P w base held t s) (hl : OpnF enc P w base held l o' s') (ho : o' = o + s.k) : OpnF enc P w base held ((t, o) :: l) o (s.prod s') := fun cs hn hf => by
  subst ho
  obtain ⟨n, x, hx⟩ := hf 0 t o rfl
  rw [h.cells] at hx
  obtain ⟨y, hy, fy⟩ := h.opn hx
  obtain ⟨z, hz, fz⟩ := hl cs (by rw [hn]; show o + (s.k + s'.k) = _; omega) (fun i t o' hi => hf (i + 1) t o' hi)
  refine ⟨(y, z), ⟨_, _, ?_, hy, hz⟩, fy, fz⟩
  rw [← List.drop_drop, List.take_append_drop]
theorem opn_struct {fs : Array Field} {l : List (TypeId × Nat)} (hu : P.underlying t = some (.struct fs)) (hfs : fs.toList.map (fun f => (f.type, f.offset)) = l) (hc : P.cellsOf t = s.k) (h : OpnF enc P w base held l 0 s) : Opn enc P w base held t s :=
  ⟨hc, fun {fuel cs x} hx => by
    obtain ⟨xs, n, _, _, hlen, hxl, hg⟩ := DataW.trod_struct hu hx
    have F := field_of hfs hxl hg
    obtain ⟨y, h1, h2⟩ := h cs (by rw [hlen, hc]; omega) (fun i t o' hi => ⟨n, F i t o' hi⟩)
    exact ⟨y, h1, h2⟩⟩
theorem opn_S (hu : P.underlying t = some .string) (hc : P.cellsOf t = 1) : Opn enc P w base held t shS := ⟨hc, fun h => by
  obtain ⟨x, rfl, hx⟩ := open_str hu h
  exact ⟨x, rfl, hx⟩⟩
theorem opn_I (hu : P.underlying t = some (.int .i64)) (hc : P.cellsOf t = 1) : Opn enc P w base held t shI := ⟨hc, fun h => by
  obtain ⟨x, rfl, hx⟩ := open_i64 hu h
  exact ⟨x, rfl, by show (0 : Nat) ≤ _; omega⟩⟩
theorem opn_B (hu : P.underlying t = some .bool) (hc : P.cellsOf t = 1) : Opn enc P w base held t shB := ⟨hc, fun h => by
  obtain ⟨x, h1, h2⟩ := DataW.trod_bool hu h
  subst h1
  exact ⟨x, rfl, by show (0 : Nat) ≤ _; omega⟩⟩
theorem list_each {α : Type} (d : α) (Q : Nat → α → Prop) : ∀ n : Nat, (∀ i, i < n → ∃ x, Q i x) → ∃ xs : List α, xs.length = n ∧ ∀ i, i < n → Q i (xs.getD i d)
  | 0, _ => ⟨[], rfl, fun i hi => absurd hi (by omega)⟩
  | n + 1, h => by
    obtain ⟨xs, hl, hx⟩ := list_each d Q n (fun i hi => h i (by omega))
    obtain ⟨y, hy⟩ := h n (by omega)
    refine ⟨xs ++ [y], by simp [hl], fun i hi => ?_⟩
    by_cases e : i < n
    · have : (xs ++ [y]).getD i d = xs.getD i d := by
        rw [List.getD_eq_getElem?_getD, List.getD_eq_getElem?_getD, List.getElem?_append_left (by omega)]
      rw [this]; exact hx i e
    · obtain rfl : i = n := by omega
      have : (xs ++ [y]).getD i d = y := by
        rw [List.getD_eq_getElem?_getD, List.getElem?_append_right (by omega), hl]; simp
      rw [this]; exact hy
theorem opn_row {e te : TypeId} (hu : P.underlying t = some (.slice e)) (hc : P.cellsOf t = 1) (hk : 0 < s.k) (h : Opn enc P w base held e s) : Opn enc P w base held t (Sh.row te s) := ⟨hc, fun {fuel cs x} hx => by
  rcases open_slice hu hx with ⟨rfl, _⟩ | ⟨a, len, cap, m, n, D, Pl, rfl, hb, hl, hm, hmm, _, hi⟩
  · exact ⟨[], ⟨none, 0, rfl, fun h => absurd h (by simp)⟩, by simp, fun x hx => by cases hx⟩
  · simp only [if_true] at hmm
    subst hmm
    have hsp0 : 0 < len → a.spot = none ∧ a.block < w.heap.size := fun h0 => by
      obtain ⟨cs', hc', ht'⟩ := hi 0 (by omega)
      obtain ⟨_, hl0, hat⟩ := World.cells?_some hc'
      rw [h.cells] at hl0 hat
      have h00 := hat 0 (by omega)
      obtain ⟨v, hv⟩ : ∃ v, cs'[0]? = some v := ⟨_, List.getElem?_eq_getElem (by omega)⟩
      rw [hv, Nat.zero_mul] at h00
      have e0 : a.add 0 = a := by simp [Addr.add]
      rw [e0, e0] at h00
      have := block_of_cell h00
      exact ⟨this.2, this.1⟩
    have each : ∀ i, i < len → ∃ y, (s.fit 9223372036854775807 y ∧ a.spot = none ∧ a.block < w.heap.size) ∧ ∃ us, CellsAt w a.block (a.off + i * s.k) us ∧ s.R w 0 w.heap.size us y := by
      intro i hil
      obtain ⟨cs', hc', ht'⟩ := hi i (by omega)
      obtain ⟨y, hy, hf⟩ := h.opn ht'
      obtain ⟨_, hl0, hat⟩ := World.cells?_some hc'
      rw [h.cells] at hl0 hat
      have hsp := hsp0 (by omega)
      obtain ⟨ab, ao, asp⟩ := a
      obtain ⟨e1, e2⟩ := hsp
      simp only at e1 e2
      subst e1
      refine ⟨y, ⟨hf, rfl, e2⟩, cs', fun j hj => ?_, hy⟩
      have := hat j (by omega)
      have hadd : ∀ o j, (⟨ab, o, none⟩ : Addr).add j = ⟨ab, o + j, none⟩ := fun o j => by unfold Addr.add; split <;> simp_all
      rw [hadd, hadd] at this
      exact this
    obtain ⟨xs, hxl, hxs⟩ := list_each s.d (fun i y => (s.fit 9223372036854775807 y ∧ a.spot = none ∧ a.block < w.heap.size) ∧ ∃ us, CellsAt w a.block (a.off + i * s.k) us ∧ s.R w 0 w.heap.size us y) len each
    refine ⟨xs, ⟨some a, _, by rw [hxl], fun hpos => ?_⟩, by unfold maxLen at hm; omega, fun y hy => ?_⟩
    · obtain ⟨⟨_, hsp, hlt⟩, _⟩ := hxs 0 (by omega)
      obtain ⟨ab, ao, asp⟩ := a
      simp only at hsp
      subst hsp
      exact ⟨ab, ao, rfl, by omega, hlt, fun j hj => (hxs j (by omega)).2⟩
    · obtain ⟨j, hj, e⟩ := List.getElem_of_mem hy
      have := (hxs j (by omega)).1.1
      rw [List.getD_eq_getElem?_getD, List.getElem?_eq_getElem hj] at this
      rw [← e]; exact this⟩
end

end Go.Proofs.YtlodlplfmpikjaaGreat
