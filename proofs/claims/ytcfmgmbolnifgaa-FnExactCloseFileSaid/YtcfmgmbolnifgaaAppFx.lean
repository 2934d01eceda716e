/- append of files to a row of files; files read off a row. -/
import Derived.Test.YtcfmgmbolnifgaaDevFew
import Derived.Test.YtcfmgmbolnifgaaOwnDev
import Derived.Test.YtcfmgmbolnifgaaTail
namespace Go.Proofs.Ytcfmgmbolnifgaa
open Go.RowKit

/-- The cells from A on are those of the files ys. -/
def FlatR (w : World) (A : Option Addr) (ys : List Fx) : Prop := ys = [] ∨ ∃ b off, A = some ⟨b, off, none⟩ ∧ ∀ j u, (flat ys)[j]? = some u → w.cell? ⟨b, off + j, none⟩ = some u
theorem FlatR.keep {w w' : World} {A : Option Addr} {ys : List Fx} (h : FlatR w A ys) (hk : ∀ b off, A = some ⟨b, off, none⟩ → w'.heap[b]? = w.heap[b]?) : FlatR w' A ys := by
  rcases h with h | ⟨b, off, e, h⟩
  · exact .inl h
  · exact .inr ⟨b, off, e, fun j u hj => (World.cell?_of_block (hk b off e)).trans (h j u hj)⟩

/-- A row's cells. -/
theorem row_flat {w : World} {lo : Nat} {A : Option Addr} {n c : Nat} {xs : List Fx} (h : w.ownsRow lo 91 4 (.slice A n c) n (flat xs)) (hn : 0 < n) :
    ∃ g, A = some ⟨g, 0, none⟩ ∧ lo ≤ g ∧ g < w.heap.size ∧ n ≤ c ∧ c ≤ maxLen ∧ ∀ j u, (flat xs)[j]? = some u → w.cell? ⟨g, j, none⟩ = some u := by
  rcases h.2 with ⟨_, h0⟩ | ⟨g, cap, cur, hv, hg, hh, hnc, hm, hsz, htk⟩
  · omega
  · injection hv with hA _ hc
    subst hc
    have hB : Blk w g 91 cur := hh
    refine ⟨g, hA, hg, hB.lt, hnc, hm, fun j u hj => ?_⟩
    rw [hB.cell, ← Array.getElem?_toList]
    rw [← htk, List.getElem?_take] at hj
    split at hj
    · exact hj
    · cases hj

theorem flat_take (k : Nat) (xs : List Fx) : flat (xs.take k) = (flat xs).take (k * 4) ∧ flat (xs.drop k) = (flat xs).drop (k * 4) := by
  induction k generalizing xs with
  | zero => simp [flat]
  | succ k ih =>
    cases xs with
    | nil => simp [flat]
    | cons x xs =>
      have hc : x.cells.length = 4 := rfl
      have e : flat (x :: xs) = x.cells ++ flat xs := by simp [flat]
      rw [e, List.take_succ_cons, List.drop_succ_cons, (ih xs).2]
      have e2 : flat (x :: xs.take k) = x.cells ++ flat (xs.take k) := by simp [flat]
      rw [e2, (ih xs).1]
      have e3 : (k + 1) * 4 = x.cells.length + k * 4 := by rw [hc]; omega
      rw [e3, List.take_length_add_append, List.drop_length_add_append]
      exact ⟨rfl, rfl⟩

theorem flatR_take {w : World} {g : Nat} {xs : List Fx} (h : ∀ j u, (flat xs)[j]? = some u → w.cell? ⟨g, j, none⟩ = some u) (k : Nat) : FlatR w (some ⟨g, 0, none⟩) (xs.take k) :=
  .inr ⟨g, 0, rfl, fun j u hj => by
    rw [(flat_take k xs).1, List.getElem?_take] at hj
    rw [Nat.zero_add]
    split at hj
    · exact h j u hj
    · cases hj⟩
theorem flatR_drop {w : World} {g : Nat} {xs : List Fx} (h : ∀ j u, (flat xs)[j]? = some u → w.cell? ⟨g, j, none⟩ = some u) (k : Nat) : FlatR w (some ⟨g, k * 4, none⟩) (xs.drop k) :=
  .inr ⟨g, k * 4, rfl, fun j u hj => by
    rw [(flat_take k xs).2, List.getElem?_drop] at hj
    exact h _ u hj⟩

/-- append(v, files...) at a row of files of the call's own. -/
theorem wp_appFx {o : Oper} {a : Go.Act} {K : Go.Act → World → Prop} {Q : Exit → Go.Act → World → Prop} (s x : Operand) (t : TypeId)
    (ho : o.op = .call { callee := .builtin .append, args := #[s, x], argTypes := #[t, t] }) (ht : Try.prog.underlying t = some (.slice 91))
    (w : World) (base : Nat) (v : Value) (xs ys : List Fx) (n m : Nat) (hs : a.eval s = v) (hown : w.ownsRow base 91 4 v n (flat xs)) (hn : xs.length = n)
    (A : Option Addr) (c : Nat) (hx : a.eval x = .slice A m c) (hm : ys.length = m) (hsrc : FlatR w A ys) (hA : A = none → m = 0 ∧ c = 0) (hlen : n + m ≤ 1000000) (hbase : base ≤ w.heap.size)
    (h : ∀ A' c' w', w'.ownsRow base 91 4 (.slice A' (n + m) c') (n + m) (flat (xs ++ ys)) → w.grownBy w' v.ownBlock → Below base w w' → K (a.put o.dst (.slice A' (n + m) c')) w') : o.wp Try.prog a w K Q := by
  obtain ⟨i0, hi0, hz0, hz1, hz2⟩ := info_parts infoFile
  have hform : ∀ {W : World} {u : Value} {k : Nat} {cs : List Value}, W.ownsRow base 91 4 u k cs → ∃ A' c', u = .slice A' k c' := fun hr => by
    rcases hr.2 with ⟨e1, e2⟩ | ⟨g, cap, cur, e1, _⟩
    · subst e2; exact ⟨none, 0, e1⟩
    · exact ⟨_, _, e1⟩
  have hlt : ∀ k, v.ownBlock = some k → base ≤ k := fun k hk => (hown.lt k hk).1
  cases A with
  | none =>
    obtain ⟨rfl, rfl⟩ := hA rfl
    have hy : ys = [] := List.eq_nil_of_length_eq_zero hm
    subst hy
    have hrun := run_append_owned_none (P := Try.prog) (w := w) base t o.type 91 i0 4 ht hi0 v n (flat xs) hown
    obtain ⟨A', c', rfl⟩ := hform hown
    unfold Oper.wp
    simp [execOp, ho, resolve, invoke, builtin, hs, hx, hrun, Result.andThen]
    refine h A' c' w ?_ ⟨rfl, rfl, rfl, Nat.le_refl _, fun _ _ _ => rfl⟩ (Below.refl _ _)
    rw [List.append_nil]
    exact hown
  | some ad =>
    have hc : ∀ j u, (flat ys)[j]? = some u → w.cell? (ad.add j) = some u := by
      rcases hsrc with rfl | ⟨b, off, e, hc⟩
      · intro j u hj; simp [flat] at hj
      · injection e with e
        subst e
        intro j u hj
        rw [Addr.add_lit]
        exact hc j u hj
    refine wp_append_own w s x t ho base 91 i0 _ 4 64 ht hi0 hz0 hz1 hz2 rfl (by decide) v n (flat xs) hs hown ad m c (flat ys) hx (by rw [flat_len, hm]) hc (flat_one ys) (by unfold maxLen; omega) (by omega) hbase fun v' w' h1 h2 _ => ?_
    obtain ⟨A', c', rfl⟩ := hform h1
    refine h A' c' w' (by rw [flat_append]; exact h1) h2 (Below.of_grown h2 hbase hlt)

theorem step_appFx {ops : Array Oper} {o : Oper} {a : Go.Act} {K : Go.Act → World → Prop} {Q : Exit → Go.Act → World → Prop} {E : Prop} (hgd : o.guard = none) (s x : Operand) (t : TypeId)
    (ho : o.op = .call { callee := .builtin .append, args := #[s, x], argTypes := #[t, t] }) (ht : Try.prog.underlying t = some (.slice 91))
    (w : World) (base : Nat) (v : Value) (xs ys : List Fx) (n m : Nat) (hs : a.eval s = v) (hown : w.ownsRow base 91 4 v n (flat xs)) (hn : xs.length = n)
    (A : Option Addr) (c : Nat) (hx : a.eval x = .slice A m c) (hm : ys.length = m) (hsrc : FlatR w A ys) (hA : A = none → m = 0 ∧ c = 0) (hlen : n + m ≤ 1000000) (hbase : base ≤ w.heap.size)
    (h : ∀ A' c' w', w'.ownsRow base 91 4 (.slice A' (n + m) c') (n + m) (flat (xs ++ ys)) → w.grownBy w' v.ownBlock → Below base w w' → K (a.put o.dst (.slice A' (n + m) c')) w') :
    if Region.wanted o (yielded ops a.tmps) = true then Oper.wp Try.prog o a w K Q else E := by
  have hw : Region.wanted o (yielded ops a.tmps) = true := by simp [Region.wanted, hgd]
  rw [if_pos hw]
  exact wp_appFx s x t ho ht w base v xs ys n m hs hown hn A c hx hm hsrc hA hlen hbase h

theorem wpList_appFx {ops : Array Oper} {rest : List Oper} {o : Oper} {a : Go.Act} {Q : Exit → Go.Act → World → Prop} (hgd : o.guard = none) (s x : Operand) (t : TypeId)
    (ho : o.op = .call { callee := .builtin .append, args := #[s, x], argTypes := #[t, t] }) (ht : Try.prog.underlying t = some (.slice 91))
    (w : World) (base : Nat) (v : Value) (xs ys : List Fx) (n m : Nat) (hs : a.eval s = v) (hown : w.ownsRow base 91 4 v n (flat xs)) (hn : xs.length = n)
    (A : Option Addr) (c : Nat) (hx : a.eval x = .slice A m c) (hm : ys.length = m) (hsrc : FlatR w A ys) (hA : A = none → m = 0 ∧ c = 0) (hlen : n + m ≤ 1000000) (hbase : base ≤ w.heap.size)
    (h : ∀ A' c' w', w'.ownsRow base 91 4 (.slice A' (n + m) c') (n + m) (flat (xs ++ ys)) → w.grownBy w' v.ownBlock → Below base w w' → wpList Try.prog ops Q rest (a.put o.dst (.slice A' (n + m) c')) w') : wpList Try.prog ops Q (o :: rest) a w :=
  wpList_plain hgd fun _ hK => wp_appFx s x t ho ht w base v xs ys n m hs hown hn A c hx hm hsrc hA hlen hbase fun A' c' w' h1 h2 h3 => hK _ _ (h A' c' w' h1 h2 h3)

/-- A literal []File{}. -/
theorem litFx (w : World) (base : Nat) (hb : base ≤ w.heap.size) : (w.alloc (.cells #[] 91)).ownsRow base 91 4 (.slice (some ⟨w.heap.size, 0, none⟩) 0 0) 0 (flat []) := by
  simpa [flat] using World.ownsRow_lit (base := base) (e := 91) (size := 4) w #[] 0 hb (by simp) rfl

/-- Files read off a row whose lines lie where they lie. -/
theorem filesR_row {w : World} {lo hi base : Nat} {A : Option Addr} {n c : Nat} {xs : List Fx} (h : w.ownsRow base 91 4 (.slice A n c) n (flat xs)) (hn : xs.length = n) (hb : lo ≤ base) (hh : w.heap.size ≤ hi)
    (hl : ∀ x ∈ xs, StrR w lo hi x.L x.f.lines.length x.f.lines) : FilesR w lo hi A n (xs.map Fx.f) := by
  refine ⟨by rw [List.length_map, hn], fun h0 => ?_⟩
  obtain ⟨g, hA, hg, hgl, _, _, hc⟩ := row_flat h h0
  refine ⟨g, 0, hA, by omega, by omega, fun j hj => ?_⟩
  have hjx : j < xs.length := by omega
  have hgd : (xs.map Fx.f).getD j filD = (xs[j]).f := by
    rw [List.getD_eq_getElem?_getD, List.getElem?_map, List.getElem?_eq_getElem hjx]; rfl
  have hcell : ∀ i u, i < 4 → (xs[j]).cells[i]? = some u → w.cell? ⟨g, 0 + j * 4 + i, none⟩ = some u := fun i u hi hu => by
    rw [Nat.zero_add]
    exact hc _ u (by rw [flat_at xs j hjx i hi]; exact hu)
  rw [hgd]
  exact ⟨(xs[j]).L, (xs[j]).c, hcell 0 _ (by omega) rfl, hcell 1 _ (by omega) rfl, hcell 2 _ (by omega) rfl, hcell 3 _ (by omega) rfl, hl _ (List.getElem_mem _)⟩

theorem OwnFx.lines {w : World} {lo hi : Nat} {v : Value} {xs : List Fx} (h : OwnFx w lo hi v xs) : ∀ x ∈ xs, StrR w lo hi x.L x.f.lines.length x.f.lines := fun x hx =>
  own_reads (h.own x hx).1 (h.own x hx).2

end Go.Proofs.Ytcfmgmbolnifgaa
