/- Words for memory: a slice of strings that reads as a list of texts and lies between two blocks; over any program. -/
import Derived.WalkKit
import Derived.WalkSpells
import Derived.WalkLawsBesides
import Derived.Lib.Hide
import Derived.Deep.QuietTactic
import Derived.BigQuiet
import Derived.Deep.LoopGhost
import Derived.Deep.RegionHeld3
import Derived.Laws.BytesArg
namespace Go.Proofs.YtgnmollbnopigaaGreat
open Go.RowKit
def RowR {α : Type} (enc : α → Value) (d : α) (w : World) (lo hi : Nat) (A : Option Addr) (n : Nat) (xs : List α) : Prop :=
 xs.length = n ∧ (0 < n → ∃ b off, A = some ⟨b, off, none⟩ ∧ lo ≤ b ∧ b < hi ∧ ∀ j, j < n → w.cell? ⟨b, off + j, none⟩ = some (enc (xs.getD j d)))
abbrev StrR := RowR Value.string ByteArray.empty
abbrev IntR := RowR (Value.int .i64) (0 : Int)
section
variable {α : Type} {enc : α → Value} {d : α}
theorem RowR.at_ {w : World} {lo hi : Nat} {A : Option Addr} {n : Nat} {xs : List α} {k : Nat} (h : RowR enc d w lo hi A n xs) (hk : k < n) :
  ∃ b off, A = some ⟨b, off, none⟩ ∧ lo ≤ b ∧ b < hi ∧ w.cell? ⟨b, off + k, none⟩ = some (enc (xs.getD k d)) := by
 obtain ⟨b, off, e, h1, h2, hc⟩ := h.2 (by omega)
 exact ⟨b, off, e, h1, h2, hc k hk⟩
theorem RowR.keep {w w' : World} {lo hi : Nat} {A : Option Addr} {n : Nat} {xs : List α} (h : RowR enc d w lo hi A n xs)
  (hk : ∀ b, lo ≤ b → b < hi → w'.heap[b]? = w.heap[b]?) : RowR enc d w' lo hi A n xs :=
 ⟨h.1, fun hn => by
  obtain ⟨b, off, e, h1, h2, hc⟩ := h.2 hn
  exact ⟨b, off, e, h1, h2, fun j hj => (World.cell?_of_block (hk b h1 h2)).trans (hc j hj)⟩⟩
theorem RowR.below {w w' : World} {lo hi B : Nat} {A : Option Addr} {n : Nat} {xs : List α} (h : RowR enc d w lo hi A n xs) (hb : Below B w w') (hB : hi ≤ B) : RowR enc d w' lo hi A n xs :=
 h.keep fun b _ h2 => hb.block b (by omega)
theorem RowR.drewN {w : World} {lo hi : Nat} {A : Option Addr} {n : Nat} {xs : List α} (h : RowR enc d w lo hi A n xs) (q : Nat) : RowR enc d (w.drewN q) lo hi A n xs := h
theorem RowR.more {w : World} {lo hi lo' hi' : Nat} {A : Option Addr} {n : Nat} {xs : List α} (h : RowR enc d w lo hi A n xs) (h1 : lo' ≤ lo) (h2 : hi ≤ hi') : RowR enc d w lo' hi' A n xs :=
 ⟨h.1, fun hn => by
  obtain ⟨b, off, e, a1, a2, hc⟩ := h.2 hn
  exact ⟨b, off, e, by omega, by omega, hc⟩⟩
theorem RowR.grown {w w' : World} {lo hi : Nat} {A : Option Addr} {n : Nat} {xs : List α} {row : Option Nat} (h : RowR enc d w lo hi A n xs) (hg : w.grownBy w' row) (hhi : hi ≤ w.heap.size) (hr : ∀ g, row = some g → hi ≤ g) : RowR enc d w' lo hi A n xs :=
 h.keep fun b _ h2 => hg.block b (by omega) (fun e => by have := hr b e.symm; omega)
theorem below_drewN' (w : World) (q : Nat) : Below w.heap.size w (w.drewN q) := ⟨rfl, rfl, rfl, Nat.le_refl _, fun _ _ => rfl⟩
theorem RowR.of_own {w : World} {base : Nat} {e : TypeId} {A : Option Addr} {n c : Nat} {xs : List α} (h : w.ownsRow base e 1 (.slice A n c) n (xs.map enc)) :
  RowR enc d w base w.heap.size A n xs := by
 have hl : xs.length = n := by have := h.1; simpa using this
 refine ⟨hl, fun hn => ?_⟩
 rcases h.2 with ⟨_, h0⟩ | ⟨g, cap, cur, hv, hg, hh, hnc, _, hsz, htk⟩
 ·omega
 ·injection hv with hA _ _
  subst hA
  refine ⟨g, 0, rfl, hg, ?_, fun j hj => ?_⟩
  ·rcases Nat.lt_or_ge g w.heap.size with hlt | hge
   ·exact hlt
   ·rw [Array.getElem?_eq_none hge] at hh; cases hh
  ·have hc : w.cell? ⟨g, 0 + j, none⟩ = cur[0 + j]? := by simp [World.cell?, hh]
   rw [hc, Nat.zero_add, ← Array.getElem?_toList]
   have h2 : (cur.toList.take (n * 1))[j]? = cur.toList[j]? := by rw [List.getElem?_take]; rw [if_pos (by omega)]
   rw [← h2, htk, List.getElem?_map, List.getElem?_eq_getElem (by omega)]
   simp [List.getD_eq_getElem?_getD, List.getElem?_eq_getElem (show j < xs.length by omega)]
end
theorem StrR.of_own {w : World} {base : Nat} {e : TypeId} {A : Option Addr} {n c : Nat} {xs : List ByteArray} (h : w.ownsRow base e 1 (.slice A n c) n (xs.map Value.string)) : StrR w base w.heap.size A n xs := RowR.of_own h
theorem grown_of_below {a w : World} (h : Below a.heap.size a w) (row : Option Nat) : a.grownBy w row := ⟨h.os, h.tape, h.output, h.size, fun i hi _ => h.block i hi⟩
theorem own_below {w w' : World} {base : Nat} {e : TypeId} {size : Nat} {v : Value} {n : Nat} {xs : List Value} (h : w.ownsRow base e size v n xs) (hb : Below w.heap.size w w') : w'.ownsRow base e size v n xs := by
 refine h.kept (grown_of_below hb none) ?_
 cases hv : v.ownBlock with
 | none => exact .inl rfl
 | some k => exact .inr (by simp)
def OwnR {α : Type} (enc : α → Value) (w : World) (base : Nat) (t : TypeId) (v : Value) (xs : List α) : Prop :=
 (∃ A c, v = .slice A xs.length c) ∧ w.ownsRow base t 1 v xs.length (xs.map enc)
abbrev OwnStrs := OwnR Value.string
abbrev OwnInts := OwnR (Value.int .i64)
section
variable {α : Type} {enc : α → Value} {d : α}
theorem OwnR.below {w w' : World} {base : Nat} {t : TypeId} {v : Value} {xs : List α} (h : OwnR enc w base t v xs) (hb : Below w.heap.size w w') : OwnR enc w' base t v xs := ⟨h.1, own_below h.2 hb⟩
theorem OwnR.alloc {w : World} {base : Nat} {t : TypeId} {v : Value} {xs : List α} (h : OwnR enc w base t v xs) (o : Obj) : OwnR enc (w.alloc o) base t v xs := ⟨h.1, h.2.alloc o⟩
theorem OwnR.reads {w : World} {base : Nat} {t : TypeId} {A : Option Addr} {n c : Nat} {xs : List α} (h : OwnR enc w base t (.slice A n c) xs) : RowR enc d w base w.heap.size A n xs := by
 obtain ⟨⟨A', c', e⟩, h2⟩ := h
 injection e with e1 e2 e3
 subst e2
 exact RowR.of_own h2
theorem own_mono {w : World} {base base' : Nat} {e : TypeId} {size : Nat} {v : Value} {n : Nat} {xs : List Value} (h : w.ownsRow base e size v n xs) (hb : base' ≤ base) : w.ownsRow base' e size v n xs := by
 refine ⟨h.1, ?_⟩
 rcases h.2 with h2 | ⟨g, cap, cur, h1, hg, r⟩
 ·exact .inl h2
 ·exact .inr ⟨g, cap, cur, h1, by omega, r⟩
theorem OwnR.mono {w : World} {base base' : Nat} {t : TypeId} {v : Value} {xs : List α} (h : OwnR enc w base t v xs) (hb : base' ≤ base) : OwnR enc w base' t v xs := ⟨h.1, own_mono h.2 hb⟩
def Grows {α : Type} (enc : α → Value) (w : World) (base : Nat) (t : TypeId) (v0 v : Value) (xs : List α) : Prop := OwnR enc w base t v xs ∨ (xs = [] ∧ v = v0)
theorem Grows.start (w : World) (base : Nat) (t : TypeId) (v0 : Value) : Grows enc w base t v0 v0 [] := .inr ⟨rfl, rfl⟩
theorem Grows.done {w w1 : World} {base base' : Nat} {t : TypeId} {v0 v : Value} {xs : List α} (h : Grows enc w base t v0 v xs) (h0 : OwnR enc w1 base' t v0 []) (hb : Below w1.heap.size w1 w) (hle : base' ≤ base) : OwnR enc w base' t v xs := by
 rcases h with h | ⟨rfl, rfl⟩
 ·exact h.mono hle
 ·exact h0.below hb
end
def Blk (w : World) (g : Nat) (t : TypeId) (cs : Array Value) : Prop := w.heap[g]? = some (.cells cs t (0, 0))
section
variable {w w' : World} {g : Nat} {t : TypeId} {cs : Array Value}
theorem Blk.lt (h : Blk w g t cs) : g < w.heap.size := by
 rcases Nat.lt_or_ge g w.heap.size with hlt | hge
 ·exact hlt
 ·unfold Blk at h; rw [Array.getElem?_eq_none hge] at h; cases h
theorem Blk.cell (h : Blk w g t cs) (i : Nat) : w.cell? ⟨g, i, none⟩ = cs[i]? := cell_of_row w g i cs t (0, 0) h
theorem Blk.frozen (h : Blk w g t cs) (i : Nat) : w.frozen? ⟨g, i, none⟩ = false := by
 unfold Blk at h
 simp [World.frozen?, h]
theorem Blk.new (w : World) (t : TypeId) (cs : Array Value) : Blk (w.alloc (.cells cs t)) w.heap.size t cs := heap_alloc_new w _
theorem Blk.drewN (h : Blk w g t cs) (n : Nat) : Blk (w.drewN n) g t cs := h
theorem Blk.alloc (h : Blk w g t cs) (o : Obj) : Blk (w.alloc o) g t cs := (Below.heap_alloc w o g h.lt).trans h
theorem Blk.set_ (h : Blk w g t cs) (i : Nat) (u : Value) : Blk (w.setCell ⟨g, i, none⟩ u) g t (cs.setIfInBounds i u) := by
 unfold Blk at h ⊢
 simp [World.setCell, Array.getElem?_modify, h]
theorem Blk.far (h : Blk w g t cs) {p : Addr} (hp : g ≠ p.block) (u : Value) : Blk (w.setCell p u) g t cs := (Below.heap_setCell w p u g hp).trans h
theorem Blk.below {B : Nat} (h : Blk w g t cs) (hb : Below B w w') (hg : g < B) : Blk w' g t cs := (hb.block g hg).trans h
end
def Three (w0 w : World) (t0 t1 t2 : TypeId) (c0 c1 c2 : Array Value) : Prop :=
 Blk w w0.heap.size t0 c0 ∧ Blk w (w0.heap.size + 1) t1 c1 ∧ Blk w (w0.heap.size + 1 + 1) t2 c2 ∧ Below w0.heap.size w0 w
theorem Three.start (w : World) (t0 t1 t2 : TypeId) (c0 c1 c2 : Array Value) : Three w (((w.alloc (.cells c0 t0)).alloc (.cells c1 t1)).alloc (.cells c2 t2)) t0 t1 t2 c0 c1 c2 := by
 refine ⟨((Blk.new w t0 c0).alloc _).alloc _, ?_, ?_, (((Below.refl _ _).alloc (Nat.le_refl _) _).alloc (by simp) _).alloc (by simp; omega) _⟩
 ·have := (Blk.new (w.alloc (.cells c0 t0)) t1 c1).alloc (.cells c2 t2)
  simpa using this
 ·have := Blk.new ((w.alloc (.cells c0 t0)).alloc (.cells c1 t1)) t2 c2
  simpa using this
theorem Three.call {w0 w w1 : World} {t0 t1 t2 : TypeId} {c0 c1 c2 : Array Value} (h : Three w0 w t0 t1 t2 c0 c1 c2) (hb : Below w.heap.size w w1) : Three w0 w1 t0 t1 t2 c0 c1 c2 :=
 ⟨h.1.below hb h.1.lt, h.2.1.below hb h.2.1.lt, h.2.2.1.below hb h.2.2.1.lt, h.2.2.2.trans (hb.mono h.2.2.2.size)⟩
theorem Three.store2 {w0 w : World} {t0 t1 t2 : TypeId} {c0 c1 c2 : Array Value} (h : Three w0 w t0 t1 t2 c0 c1 c2) (j : Nat) (u : Value) : Three w0 (w.setCell ⟨w0.heap.size + 1 + 1, j, none⟩ u) t0 t1 t2 c0 c1 (c2.setIfInBounds j u) :=
 ⟨h.1.far (by simp; omega) u, h.2.1.far (by simp) u, h.2.2.1.set_ j u, h.2.2.2.setCell (by simp; omega) u⟩
theorem bytes_toList_inj {a b : ByteArray} : a.toList = b.toList ↔ a = b := by
 rw [ByteArray.toList_eq, ByteArray.toList_eq]
 constructor
 ·intro h
  cases a with | mk a => cases b with | mk b =>
  simp only [ByteArray.mk.injEq]
  exact Array.toList_inj.1 h
 ·intro h; rw [h]
theorem beq_bytes_true {a b : ByteArray} (h : (a.toList == b.toList) = true) : a = b := bytes_toList_inj.1 (by simpa using h)
theorem beq_bytes_false {a b : ByteArray} (h : (a.toList == b.toList) = false) : a ≠ b := fun e => by rw [e] at h; simp at h
abbrev zz0 : Array Value := #[.int .i64 0, .slice none 0 0, .slice none 0 0, .slice none 0 0]
abbrev zz1 : Array Value := #[.string ⟨#[]⟩, .int .i64 0, .int .i64 0, .bool false, .int .i64 0, .int .i64 0]
abbrev zz2 : Array Value := #[.int .i64 0, .bool false, .bool false, .int .i64 0, .int .i64 0, .int .i64 0, .int .i64 0, .string ⟨#[]⟩, .string ⟨#[]⟩]
abbrev zz3 : Array Value := #[.int .i64 0, .int .i64 0, .int .i64 0, .string ⟨#[]⟩]
abbrev zz4 : Array Value := #[.string ⟨#[]⟩, .string ⟨#[]⟩, .int .i64 0, .slice none 0 0]
abbrev zz5 : Array Value := #[.int .i64 0, .string ⟨#[]⟩, .slice none 0 0, .bool false, .bool false, .string ⟨#[]⟩, .string ⟨#[]⟩]
abbrev zz6 : Array Value := #[.int .i64 0, .int .i64 0, .string ⟨#[]⟩, .slice none 0 0]
abbrev zz7 : Array Value := #[.int .i64 0, .string ⟨#[]⟩, .slice none 0 0, .string ⟨#[]⟩, .int .i64 0]
abbrev zz8 : Array Value := #[.int .i64 0, .int .i64 0, .int .i64 0, .slice none 0 0]
abbrev zz9 : Array Value := #[.int .i64 0, .slice none 0 0, .slice none 0 0, .int .i64 0, .int .i64 0, .int .i64 0, .slice none 0 0, .int .i64 0, .int .i64 0, .int .i64 0, .slice none 0 0, .slice none 0 0, .slice none 0 0]
abbrev zz10 : Array Value := #[.int .i64 0, .slice none 0 0, .slice none 0 0, .int .i64 0, .int .i64 0, .int .i64 0, .int .i64 0]
abbrev zz11 : Array Value := #[.bool false, .slice none 0 0, .slice none 0 0, .slice none 0 0]
abbrev zz12 : Array Value := #[.int .i64 0, .bool false, .slice none 0 0, .slice none 0 0, .slice none 0 0]
abbrev zz13 : Array Value := #[.int .i64 0, .int .i64 0, .slice none 0 0, .slice none 0 0, .slice none 0 0, .slice none 0 0, .slice none 0 0, .int .i64 0, .slice none 0 0, .slice none 0 0, .slice none 0 0, .bool false, .bool false, .bool false, .string ⟨#[]⟩, .slice none 0 0, .int .i64 0, .int .i64 0, .int .i64 0, .int .i64 0, .string ⟨#[]⟩]
abbrev zz14 : Array Value := #[.int .i64 0, .int .i64 0, .int .i64 0, .slice none 0 0, .slice none 0 0, .slice none 0 0, .slice none 0 0, .slice none 0 0, .int .i64 0, .slice none 0 0, .slice none 0 0, .slice none 0 0, .bool false, .bool false, .bool false, .string ⟨#[]⟩, .slice none 0 0, .int .i64 0, .int .i64 0, .int .i64 0, .int .i64 0, .string ⟨#[]⟩, .int .i64 0, .int .i64 0, .slice none 0 0, .int .i64 0, .int .i64 0, .slice none 0 0, .slice none 0 0, .slice none 0 0, .slice none 0 0, .slice none 0 0, .int .i64 0, .slice none 0 0, .slice none 0 0, .slice none 0 0, .bool false, .bool false, .bool false, .string ⟨#[]⟩, .slice none 0 0, .int .i64 0, .int .i64 0, .int .i64 0, .int .i64 0, .string ⟨#[]⟩, .string ⟨#[]⟩, .slice none 0 0, .slice none 0 0, .int .i64 0, .slice none 0 0, .string ⟨#[]⟩]
abbrev zz15 : Array Value := #[.int .i64 0, .slice none 0 0, .int .i64 0, .slice none 0 0, .slice none 0 0, .int .i64 0, .int .i64 0, .int .i64 0, .slice none 0 0, .int .i64 0, .int .i64 0, .int .i64 0, .slice none 0 0, .slice none 0 0, .slice none 0 0, .int .i64 0, .slice none 0 0, .slice none 0 0, .int .i64 0, .int .i64 0, .int .i64 0, .int .i64 0, .int .i64 0, .int .i64 0]
abbrev zz16 : Array Value := #[.int .i64 0, .slice none 0 0, .slice none 0 0, .slice none 0 0, .slice none 0 0, .slice none 0 0, .slice none 0 0, .slice none 0 0, .int .i64 0, .slice none 0 0]
abbrev zz17 : Array Value := #[.int .i64 0, .slice none 0 0, .slice none 0 0, .slice none 0 0, .slice none 0 0, .slice none 0 0, .slice none 0 0, .slice none 0 0, .int .i64 0, .slice none 0 0, .int .i64 0, .slice none 0 0, .int .i64 0, .slice none 0 0, .slice none 0 0, .int .i64 0, .int .i64 0, .int .i64 0, .slice none 0 0, .int .i64 0, .int .i64 0, .int .i64 0, .slice none 0 0, .slice none 0 0, .slice none 0 0, .int .i64 0, .slice none 0 0, .slice none 0 0, .int .i64 0, .int .i64 0, .int .i64 0, .int .i64 0, .int .i64 0, .int .i64 0, .slice none 0 0, .int .i64 0, .slice none 0 0]
end Go.Proofs.YtgnmollbnopigaaGreat
