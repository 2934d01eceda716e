/- Files in a row that grows by appends, each with lines of its own. -/
import Derived.Test.YtcfmgmbolnifgaaDevMark
import Derived.Deep.AppendLies
namespace Go.Proofs.Ytcfmgmbolnifgaa
open Go.RowKit

/-- A file and where its lines lie. -/
structure Fx where
  f : Fil
  L : Option Addr
  c : Nat
def Fx.sl (x : Fx) : Value := .slice x.L x.f.lines.length x.c
def Fx.cells (x : Fx) : List Value := [.string x.f.name, x.sl, .string x.f.part, .int .i64 x.f.at_]
def flat (xs : List Fx) : List Value := xs.flatMap Fx.cells
theorem flat_len (xs : List Fx) : (flat xs).length = xs.length * 4 := by
  induction xs with
  | nil => rfl
  | cons x xs ih => simp only [flat, List.flatMap_cons, List.length_append] at ih ⊢; rw [ih]; simp [Fx.cells]; omega
theorem flat_append (xs ys : List Fx) : flat (xs ++ ys) = flat xs ++ flat ys := List.flatMap_append
theorem flat_at (xs : List Fx) (j : Nat) (hj : j < xs.length) (i : Nat) (hi : i < 4) : (flat xs)[j * 4 + i]? = (xs[j]).cells[i]? := by
  induction xs generalizing j with
  | nil => simp at hj
  | cons x xs ih =>
    have hc : x.cells.length = 4 := rfl
    have e : flat (x :: xs) = x.cells ++ flat xs := by simp [flat]
    rw [e]
    cases j with
    | zero => rw [List.getElem?_append_left (by omega)]; simp
    | succ j =>
      rw [List.getElem?_append_right (by omega), show (j + 1) * 4 + i - x.cells.length = j * 4 + i by omega]
      rw [ih j (by simpa using hj)]; rfl

/-- The slice v holds the files xs, in blocks of the call's own from lo up to, not including, hi; no block is shared. -/
structure OwnFx (w : World) (lo hi : Nat) (v : Value) (xs : List Fx) : Prop where
  form : ∃ A c, v = .slice A xs.length c
  row : w.ownsRow lo 91 4 v xs.length (flat xs)
  top : ∀ g, v.ownBlock = some g → g < hi
  own : ∀ x ∈ xs, w.ownsRow lo 9 1 x.sl x.f.lines.length (x.f.lines.map Value.string) ∧ ∀ g, x.sl.ownBlock = some g → g < hi
  far : ∀ x ∈ xs, ∀ g, x.sl.ownBlock = some g → v.ownBlock ≠ some g
  apart : xs.Pairwise fun x y => ∀ g, x.sl.ownBlock = some g → y.sl.ownBlock ≠ some g

theorem loc_ownFx (lo hi : Nat) (v : Value) (xs : List Fx) : Loc lo hi (fun w => OwnFx w lo hi v xs) := fun _ _ hk h =>
  ⟨h.form, own_keep h.row h.top hk, h.top, fun x hx => ⟨own_keep (h.own x hx).1 (h.own x hx).2 hk, (h.own x hx).2⟩, h.far, h.apart⟩
theorem OwnFx.more {w : World} {lo hi hi' : Nat} {v : Value} {xs : List Fx} (h : OwnFx w lo hi v xs) (hh : hi ≤ hi') : OwnFx w lo hi' v xs :=
  ⟨h.form, h.row, fun g hg => by have := h.top g hg; omega, fun x hx => ⟨(h.own x hx).1, fun g hg => by have := (h.own x hx).2 g hg; omega⟩, h.far, h.apart⟩
theorem OwnFx.nil_ (w : World) (lo hi : Nat) : OwnFx w lo hi (.slice none 0 0) [] :=
  ⟨⟨none, 0, rfl⟩, World.ownsRow_nil _ _ _ _, (fun g hg => by cases hg), (fun x hx => by cases hx), (fun x hx => by cases hx), List.Pairwise.nil⟩

/-- One file more: its lines are of its own, in a block from hi on; the row was appended to. -/
theorem OwnFx.add {w w' : World} {lo hi : Nat} {v : Value} {xs : List Fx} {y : Fx} {g cap : Nat} (h : OwnFx w lo hi v xs) (hh : hi ≤ w.heap.size) (hl : lo ≤ hi)
    (hy : w.ownsRow hi 9 1 y.sl y.f.lines.length (y.f.lines.map Value.string)) (hg : w.grownBy w' v.ownBlock) (hat : v.ownBlock = some g ∨ g = w.heap.size)
    (hr : w'.ownsRow lo 91 4 (.slice (some ⟨g, 0, none⟩) (xs.length + 1) cap) (xs.length + 1) (flat xs ++ y.cells)) : OwnFx w' lo w'.heap.size (.slice (some ⟨g, 0, none⟩) (xs.length + 1) cap) (xs ++ [y]) := by
  have hsz := hg.size
  have hyv : ∀ b, y.sl.ownBlock = some b → v.ownBlock ≠ some b := fun b hb hv => by have := (hy.lt b hb).1; have := h.top b hv; omega
  have hyx : ∀ x ∈ xs, ∀ b, x.sl.ownBlock = some b → y.sl.ownBlock ≠ some b := fun x hx b hb hb' => by have := (hy.lt b hb').1; have := (h.own x hx).2 b hb; omega
  have hgv : ∀ b, b < w.heap.size → v.ownBlock ≠ some b → (Value.slice (some ⟨g, 0, none⟩) (xs.length + 1) cap).ownBlock ≠ some b := by
    intro b hb hv e
    have : g = b := by simpa [Value.ownBlock] using e
    subst this
    rcases hat with h1 | h1
    · exact hv h1
    · omega
  have hrow : w'.ownsRow lo 91 4 (.slice (some ⟨g, 0, none⟩) (xs.length + 1) cap) (xs ++ [y]).length (flat (xs ++ [y])) := by
    rw [flat_append, show flat [y] = y.cells by simp [flat], List.length_append]; exact hr
  refine ⟨⟨some ⟨g, 0, none⟩, cap, by simp⟩, hrow, fun b hb => (hrow.lt b hb).2, fun x hx => ?_, fun x hx b hb => ?_, ?_⟩
  · rcases List.mem_append.1 hx with hx | hx
    · have h1 := own_grown (h.own x hx).1 hg (fun b hb e => h.far x hx b hb e)
      exact ⟨h1, fun b hb => (h1.lt b hb).2⟩
    · obtain rfl : x = y := by simpa using hx
      have h1 := own_grown hy hg (fun b hb e => hyv b hb e)
      exact ⟨own_mono h1 hl, fun b hb => (h1.lt b hb).2⟩
  · rcases List.mem_append.1 hx with hx | hx
    · exact hgv b (by have := (h.own x hx).2 b hb; omega) (h.far x hx b hb)
    · obtain rfl : x = y := by simpa using hx
      exact hgv b (hy.lt b hb).2 (hyv b hb)
  · rw [List.pairwise_append]
    refine ⟨h.apart, List.pairwise_singleton _ _, fun x hx z hz => ?_⟩
    obtain rfl : z = y := by simpa using hz
    exact hyx x hx

/-- As files of the call's own. -/
theorem OwnFx.fils {w : World} {lo hi : Nat} {A : Option Addr} {n c : Nat} {xs : List Fx} (h : OwnFx w lo hi (.slice A n c) xs) : OwnFils w lo hi A (xs.map Fx.f) := by
  obtain ⟨A', c', e⟩ := h.form
  injection e with e1 e2 e3
  subst e1 e2 e3
  rcases h.row.2 with ⟨h1, h2⟩ | ⟨g, cap, cur, hv, hg, hh, hnc, hm, hsz, htk⟩
  · injection h1 with h1
    exact .inl ⟨h1, by have : xs = [] := List.eq_nil_of_length_eq_zero h2
                       rw [this]; rfl⟩
  · injection hv with hA _ hc
    subst hA hc
    have hgd : ∀ j, j < xs.length → (xs.map Fx.f).getD j filD = (xs.getD j ⟨filD, none, 0⟩).f := fun j hj => by
      rw [List.getD_eq_getElem?_getD, List.getD_eq_getElem?_getD, List.getElem?_map, List.getElem?_eq_getElem hj]; rfl
    have hxd : ∀ j (hj : j < xs.length), xs.getD j ⟨filD, none, 0⟩ = xs[j] := fun j hj => by
      rw [List.getD_eq_getElem?_getD, List.getElem?_eq_getElem hj]; rfl
    have hcell : ∀ j, j < xs.length → ∀ i, i < 4 → cur[j * 4 + i]? = (xs.getD j ⟨filD, none, 0⟩).cells[i]? := fun j hj i hi => by
      rw [hxd j hj, ← flat_at xs j hj i hi, ← htk, List.getElem?_take, if_pos (by omega), Array.getElem?_toList]
    have hgb : (Value.slice (some ⟨g, 0, none⟩) xs.length c).ownBlock = some g := rfl
    refine .inr ⟨g, cur, fun j => (xs.getD j ⟨filD, none, 0⟩).L, fun j => (xs.getD j ⟨filD, none, 0⟩).c, rfl, hg, h.top g hgb, ?_, ?_⟩
    · rw [List.length_map]
      refine ⟨hh, fun j hj => ?_, fun j hj => ?_, fun j hj => ?_, fun i j hij hj b hb => ?_⟩
      · rw [hgd j hj]
        exact ⟨hcell j hj 0 (by omega), hcell j hj 1 (by omega), hcell j hj 2 (by omega), hcell j hj 3 (by omega)⟩
      · rw [hgd j hj, hxd j hj]; exact (h.own _ (List.getElem_mem _)).1
      · rw [hgd j hj, hxd j hj]; exact fun e => h.far _ (List.getElem_mem _) g e hgb
      · rw [hgd i (by omega), hxd i (by omega)] at hb
        rw [hgd j hj, hxd j hj]
        exact (List.pairwise_iff_getElem.1 h.apart) i j (by omega) hj hij b hb
    · intro j hj b hb
      rw [List.length_map] at hj
      have hb2 : rowOf (xs.getD j ⟨filD, none, 0⟩).L ((xs.map Fx.f).getD j filD).lines.length (xs.getD j ⟨filD, none, 0⟩).c = some b := hb
      rw [hgd j hj, hxd j hj] at hb2
      exact (h.own _ (List.getElem_mem _)).2 b hb2

/-- Facts that lie below B and do not hold block p. -/
theorem Stand.framed {w0 w w' : World} {Fs : Facts} (h : Stand w0 Fs w) (p B : Nat) (hos : w'.os = w.os) (htp : w'.tape = w.tape) (hou : w'.output = w.output) (hsz : w.heap.size ≤ w'.heap.size)
    (hk : ∀ k, k < B → k ≠ p → w'.heap[k]? = w.heap[k]?) (h0 : w0.heap.size ≤ B) (hp0 : w0.heap.size ≤ p) (hd : ∀ f ∈ Fs, f.2.1 ≤ B ∧ (f.2.1 ≤ p ∨ p < f.1)) : Stand w0 Fs w' :=
  ⟨h.1.trans ⟨hos, htp, hou, hsz, fun k hk' => hk k (by omega) (by omega)⟩, fun f hf => by
    obtain ⟨h1, h2, h3⟩ := h.2 f hf
    obtain ⟨d1, d2⟩ := hd f hf
    exact ⟨h1, Nat.le_trans h2 hsz, h1 w w' (fun k hk1 hk2 => hk k (by omega) (by omega)) h3⟩⟩

end Go.Proofs.Ytcfmgmbolnifgaa
