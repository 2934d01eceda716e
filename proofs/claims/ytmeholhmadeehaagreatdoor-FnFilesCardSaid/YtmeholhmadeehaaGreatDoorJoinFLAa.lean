/- Words for memory: a slice of strings that reads as a list of texts and lies between two blocks; over any program. -/
import Derived.WalkKit
import Derived.WalkSpells
import Derived.WalkLawsBesides
import Derived.Lib.Hide
import Derived.Deep.QuietTactic
import Derived.BigQuiet
import Derived.Deep.LoopGhost
import Derived.Deep.RegionHeld3
import Derived.Laws.BytesArg
import Derived.Test.YtmeholhmadeehaaGreatDoorProg
namespace Go.Proofs.YtmeholhmadeehaaGreatDoor
open Go.RowKit

/-- The slice with address A and n elements of one cell each reads as xs; it lies in a block from lo up to, not including, hi. -/
def RowR {α : Type} (enc : α → Value) (d : α) (w : World) (lo hi : Nat) (A : Option Addr) (n : Nat) (xs : List α) : Prop :=
  xs.length = n ∧ (0 < n → ∃ b off, A = some ⟨b, off, none⟩ ∧ lo ≤ b ∧ b < hi ∧ ∀ j, j < n → w.cell? ⟨b, off + j, none⟩ = some (enc (xs.getD j d)))

abbrev StrR := RowR Value.string ByteArray.empty
abbrev IntR := RowR (Value.int .i64) (0 : Int)

section
variable {α : Type} {enc : α → Value} {d : α}

theorem RowR.at_ {w : World} {lo hi : Nat} {A : Option Addr} {n : Nat} {xs : List α} {k : Nat} (h : RowR enc d w lo hi A n xs) (hk : k < n) :
    ∃ b off, A = some ⟨b, off, none⟩ ∧ lo ≤ b ∧ b < hi ∧ w.cell? ⟨b, off + k, none⟩ = some (enc (xs.getD k d)) := by
  obtain ⟨b, off, e, h1, h2, hc⟩ := h.2 (by omega)
  exact ⟨b, off, e, h1, h2, hc k hk⟩

theorem RowR.keep {w w' : World} {lo hi : Nat} {A : Option Addr} {n : Nat} {xs : List α} (h : RowR enc d w lo hi A n xs)
    (hk : ∀ b, lo ≤ b → b < hi → w'.heap[b]? = w.heap[b]?) : RowR enc d w' lo hi A n xs :=
  ⟨h.1, fun hn => by
    obtain ⟨b, off, e, h1, h2, hc⟩ := h.2 hn
    exact ⟨b, off, e, h1, h2, fun j hj => (World.cell?_of_block (hk b h1 h2)).trans (hc j hj)⟩⟩

theorem RowR.below {w w' : World} {lo hi B : Nat} {A : Option Addr} {n : Nat} {xs : List α} (h : RowR enc d w lo hi A n xs) (hb : Below B w w') (hB : hi ≤ B) : RowR enc d w' lo hi A n xs :=
  h.keep fun b _ h2 => hb.block b (by omega)

theorem RowR.drewN {w : World} {lo hi : Nat} {A : Option Addr} {n : Nat} {xs : List α} (h : RowR enc d w lo hi A n xs) (q : Nat) : RowR enc d (w.drewN q) lo hi A n xs := h

theorem RowR.more {w : World} {lo hi lo' hi' : Nat} {A : Option Addr} {n : Nat} {xs : List α} (h : RowR enc d w lo hi A n xs) (h1 : lo' ≤ lo) (h2 : hi ≤ hi') : RowR enc d w lo' hi' A n xs :=
  ⟨h.1, fun hn => by
    obtain ⟨b, off, e, a1, a2, hc⟩ := h.2 hn
    exact ⟨b, off, e, by omega, by omega, hc⟩⟩

theorem RowR.grown {w w' : World} {lo hi : Nat} {A : Option Addr} {n : Nat} {xs : List α} {row : Option Nat} (h : RowR enc d w lo hi A n xs) (hg : w.grownBy w' row) (hhi : hi ≤ w.heap.size) (hr : ∀ g, row = some g → hi ≤ g) : RowR enc d w' lo hi A n xs :=
  h.keep fun b _ h2 => hg.block b (by omega) (fun e => by have := hr b e.symm; omega)

theorem Below.of_grown {w w' : World} {B : Nat} {row : Option Nat} (hg : w.grownBy w' row) (hB : B ≤ w.heap.size) (hr : ∀ g, row = some g → B ≤ g) : Below B w w' :=
  (Below.refl B w).grown hg hB hr

theorem below_drewN' (w : World) (q : Nat) : Below w.heap.size w (w.drewN q) := ⟨rfl, rfl, rfl, Nat.le_refl _, fun _ _ => rfl⟩

/-- A row of the call's own reads as its texts. -/
theorem RowR.of_own {w : World} {base : Nat} {e : TypeId} {A : Option Addr} {n c : Nat} {xs : List α} (h : w.ownsRow base e 1 (.slice A n c) n (xs.map enc)) :
    RowR enc d w base w.heap.size A n xs := by
  have hl : xs.length = n := by have := h.1; simpa using this
  refine ⟨hl, fun hn => ?_⟩
  rcases h.2 with ⟨_, h0⟩ | ⟨g, cap, cur, hv, hg, hh, hnc, _, hsz, htk⟩
  · omega
  · injection hv with hA _ _
    subst hA
    refine ⟨g, 0, rfl, hg, ?_, fun j hj => ?_⟩
    · rcases Nat.lt_or_ge g w.heap.size with hlt | hge
      · exact hlt
      · rw [Array.getElem?_eq_none hge] at hh; cases hh
    · have hc : w.cell? ⟨g, 0 + j, none⟩ = cur[0 + j]? := by simp [World.cell?, hh]
      rw [hc, Nat.zero_add, ← Array.getElem?_toList]
      have h2 : (cur.toList.take (n * 1))[j]? = cur.toList[j]? := by rw [List.getElem?_take]; rw [if_pos (by omega)]
      rw [← h2, htk, List.getElem?_map, List.getElem?_eq_getElem (by omega)]
      simp [List.getD_eq_getElem?_getD, List.getElem?_eq_getElem (show j < xs.length by omega)]

end
theorem StrR.of_own {w : World} {base : Nat} {e : TypeId} {A : Option Addr} {n c : Nat} {xs : List ByteArray} (h : w.ownsRow base e 1 (.slice A n c) n (xs.map Value.string)) : StrR w base w.heap.size A n xs := RowR.of_own h

theorem grown_of_below {a w : World} (h : Below a.heap.size a w) (row : Option Nat) : a.grownBy w row := ⟨h.os, h.tape, h.output, h.size, fun i hi _ => h.block i hi⟩

theorem grown_trans_below {a b c : World} {row : Option Nat} (h : a.grownBy b row) (k : Below b.heap.size b c) : a.grownBy c row :=
  ⟨k.os.trans h.os, k.tape.trans h.tape, k.output.trans h.output, Nat.le_trans h.size k.size, fun i hi hn => (k.block i (Nat.lt_of_lt_of_le hi h.size)).trans (h.block i hi hn)⟩

theorem grown_trans' {a b c : World} {row : Option Nat} (h : a.grownBy b row) (k : b.grownBy c row) : a.grownBy c row :=
  ⟨k.os.trans h.os, k.tape.trans h.tape, k.output.trans h.output, Nat.le_trans h.size k.size, fun i hi hn => (k.block i (Nat.lt_of_lt_of_le hi h.size) hn).trans (h.block i hi hn)⟩

theorem own_below {w w' : World} {base : Nat} {e : TypeId} {size : Nat} {v : Value} {n : Nat} {xs : List Value} (h : w.ownsRow base e size v n xs) (hb : Below w.heap.size w w') : w'.ownsRow base e size v n xs := by
  refine h.kept (grown_of_below hb none) ?_
  cases hv : v.ownBlock with
  | none => exact .inl rfl
  | some k => exact .inr (by simp)

/-- A row of the call's own that holds something has a head. -/
theorem own_head {w : World} {base : Nat} {e : TypeId} {size : Nat} {A : Option Addr} {n c : Nat} {xs : List Value} (h : w.ownsRow base e size (.slice A n c) n xs) (hn : 0 < n) :
    ∃ g, A = some ⟨g, 0, none⟩ ∧ base ≤ g ∧ g < w.heap.size := by
  rcases h.2 with ⟨_, h0⟩ | ⟨g, cap, cur, hv, hg, hh, _⟩
  · omega
  · injection hv with hA _ _
    refine ⟨g, hA, hg, ?_⟩
    rcases Nat.lt_or_ge g w.heap.size with hlt | hge
    · exact hlt
    · rw [Array.getElem?_eq_none hge] at hh; cases hh

/-- A cell below, kept over two steps. -/
theorem keep_cell {w w1 w2 : World} {b o : Nat} {v : Value} (hbw : b < w.heap.size) (h3 : Below w1.heap.size w1 w2) (h1 : w1.cell? ⟨b, o, none⟩ = some v) (h2 : Below w.heap.size w w1) :
    w2.cell? ⟨b, o, none⟩ = some v ∧ Below w.heap.size w w2 :=
  ⟨(h3.cell (p := ⟨b, o, none⟩) (Nat.lt_of_lt_of_le hbw h2.size)).trans h1, h2.trans (h3.mono h2.size)⟩

/-- A row of the call's own, of elements of one cell, with its shape. -/
def OwnR {α : Type} (enc : α → Value) (w : World) (base : Nat) (t : TypeId) (v : Value) (xs : List α) : Prop :=
  (∃ A c, v = .slice A xs.length c) ∧ w.ownsRow base t 1 v xs.length (xs.map enc)
abbrev OwnStrs := OwnR Value.string
abbrev OwnInts := OwnR (Value.int .i64)

section
variable {α : Type} {enc : α → Value} {d : α}

theorem OwnR.below {w w' : World} {base : Nat} {t : TypeId} {v : Value} {xs : List α} (h : OwnR enc w base t v xs) (hb : Below w.heap.size w w') : OwnR enc w' base t v xs := ⟨h.1, own_below h.2 hb⟩
theorem OwnR.alloc {w : World} {base : Nat} {t : TypeId} {v : Value} {xs : List α} (h : OwnR enc w base t v xs) (o : Obj) : OwnR enc (w.alloc o) base t v xs := ⟨h.1, h.2.alloc o⟩
theorem OwnR.reads {w : World} {base : Nat} {t : TypeId} {A : Option Addr} {n c : Nat} {xs : List α} (h : OwnR enc w base t (.slice A n c) xs) : RowR enc d w base w.heap.size A n xs := by
  obtain ⟨⟨A', c', e⟩, h2⟩ := h
  injection e with e1 e2 e3
  subst e2
  exact RowR.of_own h2

/-- A nil slice of strings. -/
theorem OwnR.nil_ (w : World) (base : Nat) (t : TypeId) : OwnR enc w base t (.slice none 0 0) [] := ⟨⟨none, 0, rfl⟩, World.ownsRow_nil _ _ _ _⟩
/-- A literal without elements. -/
theorem OwnR.none_ (w : World) (base : Nat) (t : TypeId) (hb : base ≤ w.heap.size) : OwnR enc (w.alloc (.cells #[] t)) base t (.slice (some ⟨w.heap.size, 0, none⟩) 0 0) [] :=
  ⟨⟨_, _, rfl⟩, by simpa using World.ownsRow_lit (base := base) (e := t) (size := 1) w #[] 0 hb (by simp) rfl⟩

/-- append(out, x): one text more at a row of the call's own. -/
theorem wpList_app1 {P : Program} {ops : Array Oper} {rest : List Oper} {o : Oper} {a : Act} {Q : Exit → Act → World → Prop} (hgd : o.guard = none) (s x : Operand) (t e : TypeId)
    (ho : o.op = .call { callee := .builtin .append, args := #[s, x], argTypes := #[t, t] }) (ht : P.underlying t = some (.slice e))
    {z : Value} {by_ : Nat} (hzz : z.cells.size = 1) (hby : by_ ≤ 16) (hone : ∀ x : α, (enc x).oneCell' = true) (hinfo : (P.info? e).map (fun i => (i.zero, i.size, i.bytes)) = some (some z, 1, by_))
    (w : World) (base : Nat) (v : Value) (xs : List α) (y : α) (hs : a.eval s = v) (hown : OwnR enc w base e v xs)
    (hx : a.eval x = .slice (some ⟨w.heap.size, 0, none⟩) 1 1) (hlen : xs.length ≤ 1000000000) (hbase : base ≤ w.heap.size)
    (h : ∀ v' w', OwnR enc w' base e v' (xs ++ [y]) → Below base w w' → wpList P ops Q rest (a.put o.dst v') w') : wpList P ops Q (o :: rest) a (w.alloc (.cells #[enc y] e)) := by
  obtain ⟨i0, hi0, hz0, hz1, hz2⟩ := info_parts hinfo
  refine wpList_append_own _ hgd s x t ho base e i0 _ 1 by_ ht hi0 hz0 hz1 hz2 hzz (by decide) v xs.length (xs.map enc) hs (hown.2.alloc _) ⟨w.heap.size, 0, none⟩ 1 1 [enc y] hx rfl ?_ ?_ (by unfold maxLen; omega) (Nat.le_trans (Nat.mul_le_mul_left _ hby) (by omega)) (by simp; omega) ?_
  · intro j u hj
    match j, hj with
    | 0, hj => simp at hj; subst hj; simp [Addr.add]
  · intro u hu; simp at hu; subst hu; exact hone y
  · intro v' w' h1 h2 _
    have hB : Below base w w' := ((Below.refl base w).alloc hbase _).grown h2 (by simp; omega) (fun k hk => by
      have := hown.2.lt k hk
      omega)
    refine h v' w' ⟨?_, ?_⟩ hB
    · rcases h1.2 with ⟨e1, e2⟩ | ⟨g, cap, cur, e1, _⟩
      · omega
      · exact ⟨some ⟨g, 0, none⟩, cap, by rw [e1]; simp⟩
    · have e3 : (xs ++ [y]).length = xs.length + 1 := by simp
      rw [e3, List.map_append]
      exact h1

theorem own_mono {w : World} {base base' : Nat} {e : TypeId} {size : Nat} {v : Value} {n : Nat} {xs : List Value} (h : w.ownsRow base e size v n xs) (hb : base' ≤ base) : w.ownsRow base' e size v n xs := by
  refine ⟨h.1, ?_⟩
  rcases h.2 with h2 | ⟨g, cap, cur, h1, hg, r⟩
  · exact .inl h2
  · exact .inr ⟨g, cap, cur, h1, by omega, r⟩

theorem OwnR.mono {w : World} {base base' : Nat} {t : TypeId} {v : Value} {xs : List α} (h : OwnR enc w base t v xs) (hb : base' ≤ base) : OwnR enc w base' t v xs := ⟨h.1, own_mono h.2 hb⟩

/-- A row that is filled by appends: what it was at the start, or of the call's own from base on. -/
def Grows {α : Type} (enc : α → Value) (w : World) (base : Nat) (t : TypeId) (v0 v : Value) (xs : List α) : Prop := OwnR enc w base t v xs ∨ (xs = [] ∧ v = v0)

theorem Grows.start (w : World) (base : Nat) (t : TypeId) (v0 : Value) : Grows enc w base t v0 v0 [] := .inr ⟨rfl, rfl⟩

theorem Grows.done {w w1 : World} {base base' : Nat} {t : TypeId} {v0 v : Value} {xs : List α} (h : Grows enc w base t v0 v xs) (h0 : OwnR enc w1 base' t v0 []) (hb : Below w1.heap.size w1 w) (hle : base' ≤ base) : OwnR enc w base' t v xs := by
  rcases h with h | ⟨rfl, rfl⟩
  · exact h.mono hle
  · exact h0.below hb

theorem wpList_app1G {P : Program} {ops : Array Oper} {rest : List Oper} {o : Oper} {a : Act} {Q : Exit → Act → World → Prop} (hgd : o.guard = none) (s x : Operand) (t e : TypeId)
    (ho : o.op = .call { callee := .builtin .append, args := #[s, x], argTypes := #[t, t] }) (ht : P.underlying t = some (.slice e))
    {z : Value} {by_ : Nat} (hzz : z.cells.size = 1) (hby : by_ ≤ 16) (hone : ∀ x : α, (enc x).oneCell' = true) (hinfo : (P.info? e).map (fun i => (i.zero, i.size, i.bytes)) = some (some z, 1, by_))
    (w : World) (base : Nat) (A0 : Option Addr) (v : Value) (xs : List α) (y : α) (hs : a.eval s = v) (hown : Grows enc w base e (.slice A0 0 0) v xs)
    (hx : a.eval x = .slice (some ⟨w.heap.size, 0, none⟩) 1 1) (hlen : xs.length ≤ 1000000000) (hbase : base ≤ w.heap.size)
    (h : ∀ v' w', Grows enc w' base e (.slice A0 0 0) v' (xs ++ [y]) → Below base w w' → wpList P ops Q rest (a.put o.dst v') w') : wpList P ops Q (o :: rest) a (w.alloc (.cells #[enc y] e)) := by
  rcases hown with hown | ⟨rfl, rfl⟩
  · exact wpList_app1 hgd s x t e ho ht hzz hby hone hinfo w base v xs y hs hown hx hlen hbase fun v' w' h1 h2 => h v' w' (.inl h1) h2
  · obtain ⟨i0, hi0, hz0, hz1, hz2⟩ := info_parts hinfo
    refine wpList_append_grows _ hgd s x t ho e i0 _ 1 by_ ht hi0 hz0 hz1 hz2 hzz (by decide) A0 0 0 [] hs (fun _ => ⟨rfl, rfl⟩) rfl (by intro b _ j u hj; simp at hj) ⟨w.heap.size, 0, none⟩ 1 1 [enc y] hx rfl ?_ ?_ (by omega) (by unfold maxLen; omega) (Nat.le_trans (Nat.mul_le_mul_left _ hby) (by omega)) ?_
    · intro j u hj
      match j, hj with
      | 0, hj => simp at hj; subst hj; simp [Addr.add]
    · intro u hu; simp at hu; subst hu; exact hone y
    · intro v' w' h1 h2
      refine h v' w' (.inl ⟨?_, own_mono h1 (by simp; omega)⟩) (((Below.refl base w).alloc hbase _).grown h2 (by simp; omega) (by intro k hk; cases hk))
      rcases h1.2 with ⟨e1, e2⟩ | ⟨g, cap, cur, e1, _⟩
      · omega
      · exact ⟨some ⟨g, 0, none⟩, cap, e1⟩

end

/-- Block g holds just the cells cs of type t, none frozen. -/
def Blk (w : World) (g : Nat) (t : TypeId) (cs : Array Value) : Prop := w.heap[g]? = some (.cells cs t (0, 0))
section
variable {w w' : World} {g : Nat} {t : TypeId} {cs : Array Value}
theorem Blk.lt (h : Blk w g t cs) : g < w.heap.size := by
  rcases Nat.lt_or_ge g w.heap.size with hlt | hge
  · exact hlt
  · unfold Blk at h; rw [Array.getElem?_eq_none hge] at h; cases h
theorem Blk.cell (h : Blk w g t cs) (i : Nat) : w.cell? ⟨g, i, none⟩ = cs[i]? := cell_of_row w g i cs t (0, 0) h
theorem Blk.frozen (h : Blk w g t cs) (i : Nat) : w.frozen? ⟨g, i, none⟩ = false := by
  unfold Blk at h
  simp [World.frozen?, h]
theorem Blk.new (w : World) (t : TypeId) (cs : Array Value) : Blk (w.alloc (.cells cs t)) w.heap.size t cs := heap_alloc_new w _
theorem Blk.drewN (h : Blk w g t cs) (n : Nat) : Blk (w.drewN n) g t cs := h
theorem Blk.alloc (h : Blk w g t cs) (o : Obj) : Blk (w.alloc o) g t cs := (Below.heap_alloc w o g h.lt).trans h
theorem Blk.set_ (h : Blk w g t cs) (i : Nat) (u : Value) : Blk (w.setCell ⟨g, i, none⟩ u) g t (cs.setIfInBounds i u) := by
  unfold Blk at h ⊢
  simp [World.setCell, Array.getElem?_modify, h]
theorem Blk.far (h : Blk w g t cs) {p : Addr} (hp : g ≠ p.block) (u : Value) : Blk (w.setCell p u) g t cs := (Below.heap_setCell w p u g hp).trans h
theorem Blk.below {B : Nat} (h : Blk w g t cs) (hb : Below B w w') (hg : g < B) : Blk w' g t cs := (hb.block g hg).trans h
end

/-- Three blocks behind w0: the parameter's, the result's, the local variable's; what lay before stands. -/
def Three (w0 w : World) (t0 t1 t2 : TypeId) (c0 c1 c2 : Array Value) : Prop :=
  Blk w w0.heap.size t0 c0 ∧ Blk w (w0.heap.size + 1) t1 c1 ∧ Blk w (w0.heap.size + 1 + 1) t2 c2 ∧ Below w0.heap.size w0 w

theorem Three.start (w : World) (t0 t1 t2 : TypeId) (c0 c1 c2 : Array Value) : Three w (((w.alloc (.cells c0 t0)).alloc (.cells c1 t1)).alloc (.cells c2 t2)) t0 t1 t2 c0 c1 c2 := by
  refine ⟨((Blk.new w t0 c0).alloc _).alloc _, ?_, ?_, (((Below.refl _ _).alloc (Nat.le_refl _) _).alloc (by simp) _).alloc (by simp; omega) _⟩
  · have := (Blk.new (w.alloc (.cells c0 t0)) t1 c1).alloc (.cells c2 t2)
    simpa using this
  · have := Blk.new ((w.alloc (.cells c0 t0)).alloc (.cells c1 t1)) t2 c2
    simpa using this
theorem Three.call {w0 w w1 : World} {t0 t1 t2 : TypeId} {c0 c1 c2 : Array Value} (h : Three w0 w t0 t1 t2 c0 c1 c2) (hb : Below w.heap.size w w1) : Three w0 w1 t0 t1 t2 c0 c1 c2 :=
  ⟨h.1.below hb h.1.lt, h.2.1.below hb h.2.1.lt, h.2.2.1.below hb h.2.2.1.lt, h.2.2.2.trans (hb.mono h.2.2.2.size)⟩
theorem Three.store2 {w0 w : World} {t0 t1 t2 : TypeId} {c0 c1 c2 : Array Value} (h : Three w0 w t0 t1 t2 c0 c1 c2) (j : Nat) (u : Value) : Three w0 (w.setCell ⟨w0.heap.size + 1 + 1, j, none⟩ u) t0 t1 t2 c0 c1 (c2.setIfInBounds j u) :=
  ⟨h.1.far (by simp; omega) u, h.2.1.far (by simp) u, h.2.2.1.set_ j u, h.2.2.2.setCell (by simp; omega) u⟩

/-- string([]byte{c}): the text of one byte. -/
theorem run_one_byte {P : Program} (src dst e : TypeId) (hs : P.underlying src = some (.slice e)) (he : P.underlying e = some (.int .u8)) (hd : P.underlying dst = some .string) (w : World) (n : Int) (c : Nat) :
    (convert src dst (.slice (some ⟨w.heap.size, 0, none⟩) 1 c)).run P (w.alloc (.cells #[.int .u8 n] e)) = .ok (.string ⟨#[UInt8.ofNat n.toNat]⟩) (w.alloc (.cells #[.int .u8 n] e)) := by
  have h := run_convert_bytes_arg (P := P) (w.alloc (.cells #[.int .u8 n] e)) src e hs he w.heap.size 0 1 c [n] rfl (fun i hi => by
    obtain rfl : i = 0 := by omega
    simp) dst hd
  exact h

theorem bytes_toList_inj {a b : ByteArray} : a.toList = b.toList ↔ a = b := by
  rw [ByteArray.toList_eq, ByteArray.toList_eq]
  constructor
  · intro h
    cases a with | mk a => cases b with | mk b =>
    simp only [ByteArray.mk.injEq]
    exact Array.toList_inj.1 h
  · intro h; rw [h]

theorem beq_bytes_true {a b : ByteArray} (h : (a.toList == b.toList) = true) : a = b := bytes_toList_inj.1 (by simpa using h)
theorem beq_bytes_false {a b : ByteArray} (h : (a.toList == b.toList) = false) : a ≠ b := fun e => by rw [e] at h; simp at h

end Go.Proofs.YtmeholhmadeehaaGreatDoor

/- Walks of the helpers on slices of strings: eqStringS, markText, markStringS, heldStringS. -/
namespace Go.Proofs.YtmeholhmadeehaaGreatDoor
open Go.RowKit

theorem take_eq_succ {xs ys : List ByteArray} {k n : Nat} (hx : xs.length = n) (hy : ys.length = n) (hk : k < n) (h : xs.take k = ys.take k) (he : xs.getD k ByteArray.empty = ys.getD k ByteArray.empty) :
    xs.take (k + 1) = ys.take (k + 1) := by
  rw [List.take_succ_eq_append_getElem (by omega), List.take_succ_eq_append_getElem (by omega), h]
  simp only [List.getD_eq_getElem?_getD, List.getElem?_eq_getElem (show k < xs.length by omega), List.getElem?_eq_getElem (show k < ys.length by omega), Option.getD_some] at he
  rw [he]

theorem ne_of_getD {xs ys : List ByteArray} {k : Nat} (he : xs.getD k ByteArray.empty ≠ ys.getD k ByteArray.empty) : xs ≠ ys := fun h => he (by rw [h])

set_option maxHeartbeats 400000 in
theorem eqStringS_any (A B : Option Addr) (n m c d lo hi lo' hi' : Nat) (xs ys : List ByteArray) (w : World) (ha : StrR w lo hi A n xs) (hb : StrR w lo' hi' B m ys)
    (hn : n ≤ 4294967296) (hm : m ≤ 4294967296) :
    Calls Tryz.prog 40 #[.slice A n c, .slice B m d] w fun e w' => e = .returned (.bool (decide (xs = ys))) ∧ ∃ q, w' = w.drewN q := by
  by_cases hne : n = m
  · subst hne
    have hab : ((n : Int) != (n : Int)) = false := by simp
    go_enter Tryz.func40, Tryz.ntmps40
    go_wp2
    go_loopw [5] (fun i wr => ∃ k q : Nat, k ≤ n ∧ i = .int .i64 k ∧ wr = w.drewN q ∧ xs.take k = ys.take k) (fun i _ => n - (intOf i).toNat)
    case atStart => exact ⟨0, 0, Nat.zero_le _, rfl, rfl, rfl⟩
    case round =>
      obtain ⟨k, q, hk, rfl, rfl, ht⟩ := hrel
      have HT := Lib.hid ht; clear ht
      by_cases hlt : k < n
      · obtain ⟨b, off, rfl, _, _, hc⟩ := ha.at_ hlt
        obtain ⟨b', off', rfl, _, _, hc'⟩ := hb.at_ hlt
        generalize hX : xs.getD k ByteArray.empty = X at *
        generalize hY : ys.getD k ByteArray.empty = Y at *
        have HX := Lib.hid hX; clear hX
        have HY := Lib.hid hY; clear hY
        have hi1 : (k : Int) < (n : Int) := by omega
        go_wp2
        go_quiet (fail)
        go_wp2
        · have hq : (!X.toList == Y.toList) = true := by assumption
          go_ret
          refine ⟨?_, _, World.drewN_drewN _ _ _⟩
          have hne : X ≠ Y := beq_bytes_false (by simpa using hq)
          have : xs ≠ ys := ne_of_getD (k := k) (by rw [HX.out, HY.out]; exact hne)
          simp [this]
        · have hq : (!X.toList == Y.toList) = false := by assumption
          have he : X = Y := beq_bytes_true (by simpa using hq)
          go_roundw
          case rel => exact ⟨k + 1, _, by omega, by go_num, rfl, take_eq_succ ha.1 hb.1 hlt HT.out (by rw [HX.out, HY.out]; exact he)⟩
          case measure => simp [intOf]; omega
      · go_wp2
        go_ret
        obtain rfl : k = n := by omega
        refine ⟨?_, _, rfl⟩
        have hxy : xs = ys := by
          have := HT.out
          rwa [List.take_of_length_le (by rw [ha.1]; omega), List.take_of_length_le (by rw [hb.1]; omega)] at this
        simp [hxy]
  · have hab : ((n : Int) != (m : Int)) = true := by simp; omega
    go_enter Tryz.func40, Tryz.ntmps40
    go_wp2
    go_ret
    refine ⟨?_, 0, rfl⟩
    have : xs ≠ ys := fun h => hne (by rw [← ha.1, ← hb.1, h])
    simp [this]

theorem eqStringS_b (A B : Option Addr) (n m c d lo hi lo' hi' : Nat) (xs ys : List ByteArray) (w : World) (ha : StrR w lo hi A n xs) (hb : StrR w lo' hi' B m ys)
    (hn : n ≤ 4294967296) (hm : m ≤ 4294967296) :
    Calls Tryz.prog 40 #[.slice A n c, .slice B m d] w fun e w' => e = .returned (.bool (decide (xs = ys))) ∧ Below w.heap.size w w' :=
  (eqStringS_any A B n m c d lo hi lo' hi' xs ys w ha hb hn hm).mono fun _ _ ⟨he, q, hq⟩ => ⟨he, by rw [hq]; exact below_drewN' w q⟩

/-- The digits of k ahead of a text, as the marks' loop puts them. -/
def digitsOn : Nat → Nat → ByteArray → ByteArray
  | 0, _, out => out
  | f + 1, k, out => if 0 < k then digitsOn f (k / 10) (⟨#[48 + UInt8.ofNat (k % 10)]⟩ ++ out) else out

def markT (k : Nat) : ByteArray := ⟨#[109]⟩ ++ digitsOn k k ByteArray.empty

theorem digits_step {f j k : Nat} {out : ByteArray} (hj : 0 < j) (hf : j ≤ f) (h : digitsOn f j out = digitsOn k k ByteArray.empty) :
    ∃ g, f = g + 1 ∧ digitsOn g (j / 10) (⟨#[48 + UInt8.ofNat (j % 10)]⟩ ++ out) = digitsOn k k ByteArray.empty := by
  obtain ⟨g, rfl⟩ : ∃ g, f = g + 1 := ⟨f - 1, by omega⟩
  refine ⟨g, rfl, ?_⟩
  rw [← h]
  conv => rhs; unfold digitsOn
  rw [if_pos hj]

theorem digits_end {f k : Nat} {out : ByteArray} (h : digitsOn f 0 out = digitsOn k k ByteArray.empty) : out = digitsOn k k ByteArray.empty := by
  rw [← h]
  cases f <;> simp [digitsOn]

set_option maxHeartbeats 400000 in
set_option maxRecDepth 100000 in
theorem markText_any (k : Nat) (w : World) (h1 : 1 ≤ k) (h2 : k ≤ 4294967296) :
    Calls Tryz.prog 80 #[.int .i64 k] w fun e w' => e = .returned (.string (markT k)) ∧ Below w.heap.size w w' := by
  have hk0 : decide (k = 0) = false := by simp; omega
  have hcv := run_one_byte (P := Tryz.prog) 39 9 5 Tryz.underlying39 Tryz.underlying5 Tryz.underlying9
  go_enter Tryz.func80, Tryz.ntmps80
  go_wp2
  go_loopw [0, 3] (fun i s wr => ∃ (j f : Nat) (out : ByteArray), i = .int .i64 j ∧ s = .string out ∧ j ≤ f ∧ j ≤ k ∧ out.size + f ≤ k ∧ Hid (digitsOn f j out = digitsOn k k ByteArray.empty) ∧ Below w.heap.size w wr) (fun i _ _ => (intOf i).toNat)
  case atStart => exact ⟨k, k, ByteArray.empty, rfl, rfl, Nat.le_refl _, Nat.le_refl _, by simp, rfl, Below.refl _ _⟩
  case round =>
    obtain ⟨j, f, out, rfl, rfl, hjf, hjk, hsz, hd, hbel⟩ := hrel
    by_cases hj : 0 < j
    · go_wp2
      go_roundw
      case rel =>
        obtain ⟨g, rfl, hg⟩ := digits_step hj hjf hd.out
        exact ⟨j / 10, g, _, by go_num, rfl, by omega, by omega, by rw [ByteArray.size_append]; show 1 + out.size + g ≤ k; omega, hg, hbel.alloc hbel.size _⟩
      case measure => simp [intOf]; omega
    · go_wp2
      go_ret
      obtain rfl : j = 0 := by omega
      exact ⟨by rw [digits_end hd.out]; rfl, hbel⟩

theorem markText_int (a : Int) (w : World) (h1 : 1 ≤ a) (h2 : a ≤ 4294967296) :
    Calls Tryz.prog 80 #[.int .i64 a] w fun e w' => e = .returned (.string (markT a.toNat)) ∧ Below w.heap.size w w' := by
  obtain ⟨k, rfl⟩ := Int.eq_ofNat_of_zero_le (show 0 ≤ a by omega)
  exact markText_any k w (by omega) (by omega)

def marksFrom (k n : Nat) : List ByteArray := (List.range n).map fun i => markT (k + i)
def markedTo (k j : Nat) (xs : List ByteArray) : List ByteArray := marksFrom k j ++ xs.drop j

theorem marksFrom_len (k n : Nat) : (marksFrom k n).length = n := by simp [marksFrom]
theorem markedTo_zero (k : Nat) (xs : List ByteArray) : markedTo k 0 xs = xs := by simp [markedTo, marksFrom]
theorem markedTo_all (k n : Nat) (xs : List ByteArray) (h : xs.length = n) : markedTo k n xs = marksFrom k n := by simp [markedTo, ← h]
theorem markedTo_succ (k j : Nat) (xs : List ByteArray) (h : j < xs.length) : (markedTo k j xs).set j (markT (k + j)) = markedTo k (j + 1) xs := by
  unfold markedTo
  rw [List.set_append, if_neg (by rw [marksFrom_len]; omega), marksFrom_len, Nat.sub_self, List.drop_eq_getElem_cons h, List.set_cons_zero]
  simp [marksFrom, List.range_succ]

set_option maxHeartbeats 400000 in
theorem markStringS_any (base : Nat) (A : Option Addr) (n c k : Nat) (xs : List ByteArray) (w : World) (h : w.ownsRow base 9 1 (.slice A n c) n (xs.map Value.string))
    (h1 : 1 ≤ k) (h2 : k + n ≤ 4294967296) :
    Calls Tryz.prog 43 #[.slice A n c, .int .i64 k] w fun e w' => e = .returned (.int .i64 (k + n : Nat)) ∧
      w'.ownsRow base 9 1 (.slice A n c) n ((marksFrom k n).map Value.string) ∧ w.grownBy w' (Value.slice A n c).ownBlock := by
  have hl : xs.length = n := by have := h.1; simpa using this
  go_enter Tryz.func43, Tryz.ntmps43
  go_wp2
  go_loopw [1, 5] (fun s i wr => ∃ j : Nat, j ≤ n ∧ i = .int .i64 j ∧ s = .int .i64 (k + j : Nat) ∧ wr.ownsRow base 9 1 (.slice A n c) n ((markedTo k j xs).map Value.string) ∧ w.grownBy wr (Value.slice A n c).ownBlock) (fun _ i _ => n - (intOf i).toNat)
  case atStart => exact ⟨0, Nat.zero_le _, rfl, rfl, by rw [markedTo_zero]; exact h, World.grownBy.refl _ _⟩
  case round =>
    obtain ⟨j, hj, rfl, rfl, hown, hgr⟩ := hrel
    by_cases hlt : j < n
    · obtain ⟨g, rfl, hbg, hglt⟩ := own_head hown (by omega)
      go_wp2_with fail
      refine (markText_int _ _ (by omega) (by omega)).mono ?_
      rintro e w1 ⟨rfl, hb⟩
      have hown1 := own_below hown hb
      have hc := hown1.cellAt j (by omega)
      have hf := hown1.frozenAt j
      rw [List.getElem?_map, List.getElem?_eq_getElem (by simp [markedTo, marksFrom_len]; omega)] at hc
      simp only [Option.map_some] at hc
      rw [show ((k : Int) + (j : Int)).toNat = k + j by omega]
      have hst := hown1.stored j (.string (markT (k + j)))
      have hgr1 := grown_trans_below hgr hb
      clear hown1 hown hgr hb h
      go_wp2
      go_roundw
      case rel =>
        refine ⟨j + 1, by omega, by go_num, by go_num, ?_, grown_trans' hgr1 hst.2⟩
        rw [← markedTo_succ k j xs (by omega), List.map_set]
        exact hst.1
      case measure => simp [intOf]; omega
    · go_wp2
      go_ret
      obtain rfl : j = n := by omega
      exact ⟨rfl, by rw [markedTo_all k j xs hl] at hown; exact hown, hgr⟩

set_option maxHeartbeats 400000 in
theorem heldStringS_any (A : Option Addr) (n c k lo hi : Nat) (w : World) (h : StrR w lo hi A n (marksFrom k n)) (hhi : hi ≤ w.heap.size)
    (h1 : 1 ≤ k) (h2 : k + n ≤ 4294967296) :
    Calls Tryz.prog 46 #[.slice A n c, .int .i64 k] w fun e w' => e = .returned (.int .i64 (k + n : Nat)) ∧ Below w.heap.size w w' := by
  go_enter Tryz.func46, Tryz.ntmps46
  go_wp2
  go_loopw [1, 5] (fun s i wr => ∃ j : Nat, j ≤ n ∧ i = .int .i64 j ∧ s = .int .i64 (k + j : Nat) ∧ Below w.heap.size w wr) (fun _ i _ => n - (intOf i).toNat)
  case atStart => exact ⟨0, Nat.zero_le _, rfl, rfl, Below.refl _ _⟩
  case round =>
    obtain ⟨j, hj, rfl, rfl, hbel⟩ := hrel
    by_cases hlt : j < n
    · obtain ⟨b, off, rfl, _, hblt, hc⟩ := (h.below hbel hhi).at_ hlt
      have hg : (marksFrom k n).getD j ByteArray.empty = markT (k + j) := by simp [marksFrom, List.getD_eq_getElem?_getD, hlt]
      rw [hg] at hc
      clear hg
      have hi1 : (j : Int) < (n : Int) := by omega
      have hbw : b < w.heap.size := by omega
      have hts : ((k : Int) + (j : Int)).toNat = k + j := by omega
      have hbd := hbel.drew
      go_wp2_with fail
      go_region_held3 (fun w' => w'.cell? ⟨b, off + j, none⟩ = some (.string (markT (k + j))) ∧ Below w.heap.size w w') (first | exact ⟨hc, hbel⟩ | exact ⟨hc, hbd⟩ | exact keep_cell hbw hb (by assumption) (by assumption))
        (first | (go_at_call 80; refine (markText_int _ _ (by omega) (by omega)).mono ?_; rintro e w1 ⟨rfl, hb⟩))
      have hb2 : Below w.heap.size w w1 := hbd.trans (hb.mono hbd.size)
      clear hb hbd hbel
      go_wp2
      go_roundw
      case rel => exact ⟨j + 1, by omega, by go_num, by go_num, hb2⟩
      case measure => simp [intOf]; omega
    · go_wp2
      go_ret
      obtain rfl : j = n := by omega
      exact ⟨rfl, hbel⟩

theorem markStringS_one (base : Nat) (A : Option Addr) (n c : Nat) (xs : List ByteArray) (w : World) (h : w.ownsRow base 9 1 (.slice A n c) n (xs.map Value.string)) (h2 : n ≤ 4294967000) :
    Calls Tryz.prog 43 #[.slice A n c, .int .i64 1] w fun e w' => e = .returned (.int .i64 (1 + n : Nat)) ∧
      w'.ownsRow base 9 1 (.slice A n c) n ((marksFrom 1 n).map Value.string) ∧ w.grownBy w' (Value.slice A n c).ownBlock := markStringS_any base A n c 1 xs w h (by omega) (by omega)

theorem heldStringS_one (A : Option Addr) (n c lo hi : Nat) (w : World) (h : StrR w lo hi A n (marksFrom 1 n)) (hhi : hi ≤ w.heap.size) (h2 : n ≤ 4294967000) :
    Calls Tryz.prog 46 #[.slice A n c, .int .i64 1] w fun e w' => e = .returned (.int .i64 (1 + n : Nat)) ∧ Below w.heap.size w w' := heldStringS_any A n c 1 lo hi w h hhi (by omega) (by omega)

end Go.Proofs.YtmeholhmadeehaaGreatDoor

/- Walks of the helpers on slices: szStringS, toStringS, szInt64S, toInt64S, eqInt64S. -/
namespace Go.Proofs.YtmeholhmadeehaaGreatDoor
open Go.RowKit

/-- What the first texts take. -/
def sizeTo (xs : List ByteArray) (k : Nat) : Nat := ((xs.take k).map ByteArray.size).sum
def sizeAll (xs : List ByteArray) : Nat := (xs.map ByteArray.size).sum

theorem sizeTo_succ {xs : List ByteArray} {k : Nat} (h : k < xs.length) : sizeTo xs (k + 1) = sizeTo xs k + (xs.getD k ByteArray.empty).size := by
  unfold sizeTo
  rw [List.take_succ_eq_append_getElem h, List.map_append, List.sum_append, List.getD_eq_getElem?_getD, List.getElem?_eq_getElem h]
  simp

theorem sizeTo_le (xs : List ByteArray) (k : Nat) : sizeTo xs k ≤ sizeAll xs := by
  unfold sizeTo sizeAll
  have : (xs.map ByteArray.size).sum = ((xs.take k).map ByteArray.size).sum + ((xs.drop k).map ByteArray.size).sum := by
    rw [← List.sum_append, ← List.map_append, List.take_append_drop]
  omega

theorem sizeTo_all (xs : List ByteArray) : sizeTo xs xs.length = sizeAll xs := by unfold sizeTo sizeAll; rw [List.take_length]

/-- What is left of a room behind a list of texts; -1 where it does not fit. -/
def leftStrs (left : Nat) (xs : List ByteArray) : Int := if xs.length + sizeAll xs ≤ left then (left : Int) - (xs.length : Int) - (sizeAll xs : Int) else -1
def leftInts (left : Nat) (n : Nat) : Int := if n ≤ left then (left : Int) - (n : Int) else -1

set_option maxHeartbeats 400000 in
theorem szStringS_any (A : Option Addr) (n c lo hi left : Nat) (xs : List ByteArray) (w : World) (ha : StrR w lo hi A n xs) (hn : n ≤ 9223372036854775807) (hl : left ≤ 1048576) (hb : ∀ x ∈ xs, x.size ≤ 9223372036854775807) :
    Calls Tryz.prog 22 #[.slice A n c, .int .i64 left] w fun e w' => e = .returned (.int .i64 (leftStrs left xs)) ∧ w' = w := by
  by_cases hfit : n ≤ left
  · have hd : ¬ ((left : Int) - (n : Int) < 0) := by omega
    go_enter Tryz.func22, Tryz.ntmps22
    go_wp2
    go_loop [1, 5] (fun s i => ∃ k : Nat, k ≤ n ∧ i = .int .i64 k ∧ s = .int .i64 ((left : Int) - (n : Int) - (sizeTo xs k : Int)) ∧ n + sizeTo xs k ≤ left) (fun _ i => n - (intOf i).toNat)
    case atStart => exact ⟨0, Nat.zero_le _, rfl, by simp [sizeTo], by simpa [sizeTo] using hfit⟩
    case round =>
      obtain ⟨k, hk, rfl, rfl, hsum⟩ := hrel
      by_cases hlt : k < n
      · obtain ⟨b, off, rfl, _, _, hcell⟩ := ha.at_ hlt
        have hs := sizeTo_succ (xs := xs) (k := k) (by rw [ha.1]; exact hlt)
        have hxl : (xs.getD k ByteArray.empty).size ≤ 9223372036854775807 := by
          rw [List.getD_eq_getElem?_getD, List.getElem?_eq_getElem (by rw [ha.1]; exact hlt)]
          exact hb _ (List.getElem_mem _)
        have hle := sizeTo_le xs (k + 1)
        have hlen := ha.1
        generalize hX : xs.getD k ByteArray.empty = X at *
        clear hX
        generalize hs1 : sizeTo xs (k + 1) = s1 at *
        generalize hs0 : sizeTo xs k = s0 at *
        have HS := Lib.hid hs; have HS1 := Lib.hid hs1; clear hs hs1 hs0 hb ha
        have HL := Lib.hid hlen; clear hlen
        by_cases hok : n + s0 + X.size ≤ left
        · have hd2 : ¬ ((left : Int) - (n : Int) - (s0 : Int) - (X.size : Int) < 0) := by omega
          go_wp2
          go_round
          case rel => exact ⟨k + 1, by omega, by go_num, by rw [HS1.out, HS.out]; congr 1; omega, by rw [HS1.out, HS.out]; omega⟩
          case measure => simp [intOf]; omega
        · have hd2 : ((left : Int) - (n : Int) - (s0 : Int) - (X.size : Int) < 0) := by omega
          go_wp2
          go_ret
          refine ⟨?_, rfl⟩
          unfold leftStrs
          rw [if_neg (by have := HS.out; have := HL.out; omega)]
          rfl
      · go_wp2
        go_ret
        obtain rfl : k = n := by omega
        refine ⟨?_, rfl⟩
        have h1 := ha.1
        subst h1
        rw [sizeTo_all] at *
        unfold leftStrs
        rw [if_pos hsum]
        rfl
  · have hd : ((left : Int) - (n : Int) < 0) := by omega
    go_enter Tryz.func22, Tryz.ntmps22
    go_wp2
    go_ret
    refine ⟨?_, rfl⟩
    unfold leftStrs
    rw [if_neg (by rw [ha.1]; omega)]
    rfl

/-- What a walk over sizes leaves of the room: -1, or the room less the cost. -/
def Left (left : Int) (cost : Nat) (n : Int) : Prop := n = -1 ∨ (0 ≤ n ∧ n + (cost : Int) = left)

def costStrs (xs : List ByteArray) : Nat := xs.length + sizeAll xs

theorem szStringS_l (A : Option Addr) (n c lo hi : Nat) (left : Int) (xs : List ByteArray) (w : World) (ha : StrR w lo hi A n xs) (hn : n ≤ 140737488351232) (hl0 : 0 ≤ left) (hl : left ≤ 1048576) (hb : ∀ x ∈ xs, x.size ≤ 140737488351232) :
    Calls Tryz.prog 22 #[.slice A n c, .int .i64 left] w fun e w' => ∃ m, e = .returned (.int .i64 m) ∧ Left left (costStrs xs) m ∧ w = w' := by
  obtain ⟨k, rfl⟩ := Int.eq_ofNat_of_zero_le hl0
  refine (szStringS_any A n c lo hi k xs w ha (by omega) (by omega) (fun x hx => by have := hb x hx; omega)).mono fun e w' ⟨he, hw⟩ => ⟨_, he, ?_, hw.symm⟩
  unfold leftStrs Left costStrs
  split
  · right; omega
  · left; rfl

theorem mem_le_sizeAll {xs : List ByteArray} {x : ByteArray} (h : x ∈ xs) : x.size ≤ sizeAll xs := by
  induction xs with
  | nil => cases h
  | cons y ys ih =>
    unfold sizeAll at *
    rw [List.map_cons, List.sum_cons]
    rcases List.mem_cons.1 h with h | h
    · rw [h]; omega
    · have := ih h; omega

/-- make([]T, n), then one store a round: the row so far. -/
def copiedTo {α : Type} (d : α) (k : Nat) (xs : List α) : List α := xs.take k ++ List.replicate (xs.length - k) d

theorem copiedTo_len {α : Type} (d : α) (k : Nat) (xs : List α) (h : k ≤ xs.length) : (copiedTo d k xs).length = xs.length := by simp [copiedTo]; omega
theorem copiedTo_zero {α : Type} (d : α) (xs : List α) : copiedTo d 0 xs = List.replicate xs.length d := by simp [copiedTo]
theorem copiedTo_all {α : Type} (d : α) (xs : List α) : copiedTo d xs.length xs = xs := by simp [copiedTo]
theorem copiedTo_succ {α : Type} (d : α) (k : Nat) (xs : List α) (h : k < xs.length) : (copiedTo d k xs).set k (xs.getD k d) = copiedTo d (k + 1) xs := by
  unfold copiedTo
  have e : xs.length - k = (xs.length - (k + 1)) + 1 := by omega
  rw [List.set_append, if_neg (by simp; omega), List.length_take, Nat.min_eq_left (by omega), Nat.sub_self, e, List.replicate_succ, List.set_cons_zero,
    List.take_succ_eq_append_getElem h, List.append_assoc, List.getD_eq_getElem?_getD, List.getElem?_eq_getElem h]
  rfl

theorem infoString : (Tryz.prog.info? 9).map (fun i => (i.zero, i.size, i.bytes)) = some (some (.string ⟨#[]⟩), 1, 16) := by kernel_rfl
theorem infoInt64 : (Tryz.prog.info? 2).map (fun i => (i.zero, i.size, i.bytes)) = some (some (.int .i64 0), 1, 8) := by kernel_rfl

theorem make_row {P : Program} {α : Type} (enc : α → Value) (d : α) (t e : TypeId) (ht : P.underlying t = some (.slice e)) {by_ : Nat} (hby : by_ ≤ 16) (hone : (enc d).cells = #[enc d])
    (hinfo : (P.info? e).map (fun i => (i.zero, i.size, i.bytes)) = some (some (enc d), 1, by_)) (n : Nat) (hn : n ≤ 1048576) (w : World) :
    (Instr.makeSlice t (.int .i64 (n : Int)) (.int .i64 (n : Int))).run P w = .ok (.slice (some ⟨w.heap.size, 0, none⟩) n n) (w.alloc (.cells (List.replicate n (enc d)).toArray e)) := by
  obtain ⟨i0, hi0, hz0, hz1, hz2⟩ := info_parts hinfo
  have hb : (i0.bytes : Int) * (n : Int) ≤ 281474976710656 := by
    have h : ((i0.bytes * n : Nat) : Int) ≤ 281474976710656 := by
      have := Nat.mul_le_mul (show i0.bytes ≤ 16 by omega) hn
      omega
    rwa [Int.natCast_mul] at h
  have hr := run_make (P := P) w t e i0 (enc d) ht hi0 hz0 .i64 .i64 n n (by omega) (by omega) hb (by omega)
  simp only [Int.toNat_natCast] at hr
  rw [hr, hz1, Nat.mul_one, hone]
  congr 3
  rw [← Array.toList_inj, toList_madeCells_one]

theorem own_made {α : Type} (enc : α → Value) (d : α) (w : World) (e : TypeId) (n : Nat) (hn : n ≤ 1048576) :
    (w.alloc (.cells (List.replicate n (enc d)).toArray e)).ownsRow w.heap.size e 1 (.slice (some ⟨w.heap.size, 0, none⟩) n n) n ((List.replicate n d).map enc) := by
  have := World.ownsRow_lit (base := w.heap.size) (e := e) (size := 1) w (List.replicate n (enc d)).toArray n (Nat.le_refl _) (by unfold maxLen; omega) (by simp)
  simpa using this

set_option maxHeartbeats 400000 in
theorem toStringS_any (A : Option Addr) (n c lo hi : Nat) (xs : List ByteArray) (w : World) (ha : StrR w lo hi A n xs) (hhi : hi ≤ w.heap.size) (hn : n ≤ 1048576) :
    Calls Tryz.prog 30 #[.slice A n c] w fun e w' => ∃ v, e = .returned v ∧ OwnStrs w' w.heap.size 9 v xs ∧ Below w.heap.size w w' := by
  have hmk := fun W => make_row (P := Tryz.prog) Value.string ByteArray.empty 22 9 Tryz.underlying22 (by omega) rfl infoString n hn W
  have hl := ha.1
  subst hl
  have H0 := Lib.hid (own_made Value.string ByteArray.empty w 9 xs.length hn)
  have HA := Lib.hid ((Below.refl w.heap.size w).alloc (Nat.le_refl _) (.cells (List.replicate xs.length (Value.string ByteArray.empty)).toArray 9))
  go_enter Tryz.func30, Tryz.ntmps30
  go_wp2
  go_loopw [4] (fun i wr => ∃ k : Nat, k ≤ xs.length ∧ i = .int .i64 k ∧ wr.ownsRow w.heap.size 9 1 (.slice (some ⟨w.heap.size, 0, none⟩) xs.length xs.length) xs.length ((copiedTo ByteArray.empty k xs).map Value.string) ∧ Below w.heap.size w wr) (fun i _ => xs.length - (intOf i).toNat)
  case atStart => exact ⟨0, Nat.zero_le _, rfl, by rw [copiedTo_zero]; simpa using H0.out, by simpa using HA.out⟩
  case round =>
    clear hmk
    obtain ⟨k, hk, rfl, hown, hbel⟩ := hrel
    by_cases hlt : k < xs.length
    · obtain ⟨b, off, rfl, _, hb, hcell⟩ := (ha.below hbel hhi).at_ hlt
      have hc := hown.cellAt k (by omega)
      have hf := hown.frozenAt k
      rw [List.getElem?_map, List.getElem?_eq_getElem (by rw [copiedTo_len _ _ _ hk]; exact hlt)] at hc
      simp only [Option.map_some] at hc
      have hst := hown.stored k (Value.string (xs.getD k ByteArray.empty))
      rw [← List.map_set, copiedTo_succ _ _ _ hlt] at hst
      have hb2 := hbel.grown hst.2 hbel.size (fun g hg => by injection hg with hg; omega)
      have HS := Lib.hid hst.1
      generalize xs.getD k ByteArray.empty = X at *
      clear hst hown H0 HA
      go_wp2
      go_roundw
      case rel => exact ⟨k + 1, by omega, by go_num, HS.out, hb2⟩
      case measure => simp [intOf]; omega
    · go_wp2
      go_ret
      obtain rfl : k = xs.length := by omega
      rw [copiedTo_all] at hown
      exact ⟨_, rfl, ⟨⟨_, _, rfl⟩, hown⟩, hbel⟩

theorem take_eq_succ_int {xs ys : List Int} {k n : Nat} (hx : xs.length = n) (hy : ys.length = n) (hk : k < n) (h : xs.take k = ys.take k) (he : xs.getD k 0 = ys.getD k 0) :
    xs.take (k + 1) = ys.take (k + 1) := by
  rw [List.take_succ_eq_append_getElem (by omega), List.take_succ_eq_append_getElem (by omega), h]
  simp only [List.getD_eq_getElem?_getD, List.getElem?_eq_getElem (show k < xs.length by omega), List.getElem?_eq_getElem (show k < ys.length by omega), Option.getD_some] at he
  rw [he]

end Go.Proofs.YtmeholhmadeehaaGreatDoor
