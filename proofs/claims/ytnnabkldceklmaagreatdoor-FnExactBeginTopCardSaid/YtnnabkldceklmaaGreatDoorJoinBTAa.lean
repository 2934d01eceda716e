/- Words for memory: a slice of strings that reads as a list of texts and lies between two blocks; over any program. -/
import Derived.WalkKit
import Derived.WalkSpells
import Derived.WalkLawsBesides
import Derived.Lib.Hide
import Derived.Deep.QuietTactic
import Derived.BigQuiet
import Derived.Deep.LoopGhost
import Derived.Deep.RegionHeld3
import Derived.Laws.BytesArg
import Derived.Deep.AppendLies
namespace Go.Proofs.YtnnabkldceklmaaGreatDoor
open Go.RowKit
theorem hd_ {p : Prop} (h : p) : Hid p := Lib.hid h
def RowR {α : Type} (enc : α → Value) (d : α) (w : World) (lo hi : Nat) (A : Option Addr) (n : Nat) (xs : List α) : Prop :=
 xs.length = n ∧ (0 < n → ∃ b off, A = some ⟨b, off, none⟩ ∧ lo ≤ b ∧ b < hi ∧ ∀ j, j < n → w.cell? ⟨b, off + j, none⟩ = some (enc (xs.getD j d)))
abbrev StrR := RowR Value.string ByteArray.empty
abbrev IntR := RowR (Value.int .i64) (0 : Int)
section
variable {α : Type} {enc : α → Value} {d : α}
theorem RowR.at_ {w : World} {lo hi : Nat} {A : Option Addr} {n : Nat} {xs : List α} {k : Nat} (h : RowR enc d w lo hi A n xs) (hk : k < n) :
  ∃ b off, A = some ⟨b, off, none⟩ ∧ lo ≤ b ∧ b < hi ∧ w.cell? ⟨b, off + k, none⟩ = some (enc (xs.getD k d)) := by
 obtain ⟨b, off, e, h1, h2, hc⟩ := h.2 (by omega)
 exact ⟨b, off, e, h1, h2, hc k hk⟩
theorem RowR.keep {w w' : World} {lo hi : Nat} {A : Option Addr} {n : Nat} {xs : List α} (h : RowR enc d w lo hi A n xs)
  (hk : ∀ b, lo ≤ b → b < hi → w'.heap[b]? = w.heap[b]?) : RowR enc d w' lo hi A n xs :=
 ⟨h.1, fun hn => by
  obtain ⟨b, off, e, h1, h2, hc⟩ := h.2 hn
  exact ⟨b, off, e, h1, h2, fun j hj => (World.cell?_of_block (hk b h1 h2)).trans (hc j hj)⟩⟩
theorem RowR.below {w w' : World} {lo hi B : Nat} {A : Option Addr} {n : Nat} {xs : List α} (h : RowR enc d w lo hi A n xs) (hb : Below B w w') (hB : hi ≤ B) : RowR enc d w' lo hi A n xs :=
 h.keep fun b _ h2 => hb.block b (by omega)
theorem RowR.drewN {w : World} {lo hi : Nat} {A : Option Addr} {n : Nat} {xs : List α} (h : RowR enc d w lo hi A n xs) (q : Nat) : RowR enc d (w.drewN q) lo hi A n xs := h
theorem RowR.more {w : World} {lo hi lo' hi' : Nat} {A : Option Addr} {n : Nat} {xs : List α} (h : RowR enc d w lo hi A n xs) (h1 : lo' ≤ lo) (h2 : hi ≤ hi') : RowR enc d w lo' hi' A n xs :=
 ⟨h.1, fun hn => by
  obtain ⟨b, off, e, a1, a2, hc⟩ := h.2 hn
  exact ⟨b, off, e, by omega, by omega, hc⟩⟩
theorem RowR.grown {w w' : World} {lo hi : Nat} {A : Option Addr} {n : Nat} {xs : List α} {row : Option Nat} (h : RowR enc d w lo hi A n xs) (hg : w.grownBy w' row) (hhi : hi ≤ w.heap.size) (hr : ∀ g, row = some g → hi ≤ g) : RowR enc d w' lo hi A n xs :=
 h.keep fun b _ h2 => hg.block b (by omega) (fun e => by have := hr b e.symm; omega)
theorem Below.of_grown {w w' : World} {B : Nat} {row : Option Nat} (hg : w.grownBy w' row) (hB : B ≤ w.heap.size) (hr : ∀ g, row = some g → B ≤ g) : Below B w w' :=
 (Below.refl B w).grown hg hB hr
theorem below_drewN' (w : World) (q : Nat) : Below w.heap.size w (w.drewN q) := ⟨rfl, rfl, rfl, Nat.le_refl _, fun _ _ => rfl⟩
theorem RowR.of_own {w : World} {base : Nat} {e : TypeId} {A : Option Addr} {n c : Nat} {xs : List α} (h : w.ownsRow base e 1 (.slice A n c) n (xs.map enc)) :
  RowR enc d w base w.heap.size A n xs := by
 have hl : xs.length = n := by have := h.1; simpa using this
 refine ⟨hl, fun hn => ?_⟩
 rcases h.2 with ⟨_, h0⟩ | ⟨g, cap, cur, hv, hg, hh, hnc, _, hsz, htk⟩
 ·omega
 ·injection hv with hA _ _
  subst hA
  refine ⟨g, 0, rfl, hg, ?_, fun j hj => ?_⟩
  ·rcases Nat.lt_or_ge g w.heap.size with hlt | hge
   ·exact hlt
   ·rw [Array.getElem?_eq_none hge] at hh; cases hh
  ·have hc : w.cell? ⟨g, 0 + j, none⟩ = cur[0 + j]? := by simp [World.cell?, hh]
   rw [hc, Nat.zero_add, ← Array.getElem?_toList]
   have h2 : (cur.toList.take (n * 1))[j]? = cur.toList[j]? := by rw [List.getElem?_take]; rw [if_pos (by omega)]
   rw [← h2, htk, List.getElem?_map, List.getElem?_eq_getElem (by omega)]
   simp [List.getD_eq_getElem?_getD, List.getElem?_eq_getElem (show j < xs.length by omega)]
end
theorem StrR.of_own {w : World} {base : Nat} {e : TypeId} {A : Option Addr} {n c : Nat} {xs : List ByteArray} (h : w.ownsRow base e 1 (.slice A n c) n (xs.map Value.string)) : StrR w base w.heap.size A n xs := RowR.of_own h
theorem grown_of_below {a w : World} (h : Below a.heap.size a w) (row : Option Nat) : a.grownBy w row := ⟨h.os, h.tape, h.output, h.size, fun i hi _ => h.block i hi⟩
theorem grown_trans_below {a b c : World} {row : Option Nat} (h : a.grownBy b row) (k : Below b.heap.size b c) : a.grownBy c row :=
 ⟨k.os.trans h.os, k.tape.trans h.tape, k.output.trans h.output, Nat.le_trans h.size k.size, fun i hi hn => (k.block i (Nat.lt_of_lt_of_le hi h.size)).trans (h.block i hi hn)⟩
theorem grown_trans' {a b c : World} {row : Option Nat} (h : a.grownBy b row) (k : b.grownBy c row) : a.grownBy c row :=
 ⟨k.os.trans h.os, k.tape.trans h.tape, k.output.trans h.output, Nat.le_trans h.size k.size, fun i hi hn => (k.block i (Nat.lt_of_lt_of_le hi h.size) hn).trans (h.block i hi hn)⟩
theorem own_below {w w' : World} {base : Nat} {e : TypeId} {size : Nat} {v : Value} {n : Nat} {xs : List Value} (h : w.ownsRow base e size v n xs) (hb : Below w.heap.size w w') : w'.ownsRow base e size v n xs := by
 refine h.kept (grown_of_below hb none) ?_
 cases hv : v.ownBlock with
 | none => exact .inl rfl
 | some k => exact .inr (by simp)
theorem own_head {w : World} {base : Nat} {e : TypeId} {size : Nat} {A : Option Addr} {n c : Nat} {xs : List Value} (h : w.ownsRow base e size (.slice A n c) n xs) (hn : 0 < n) :
  ∃ g, A = some ⟨g, 0, none⟩ ∧ base ≤ g ∧ g < w.heap.size := by
 rcases h.2 with ⟨_, h0⟩ | ⟨g, cap, cur, hv, hg, hh, _⟩
 ·omega
 ·injection hv with hA _ _
  refine ⟨g, hA, hg, ?_⟩
  rcases Nat.lt_or_ge g w.heap.size with hlt | hge
  ·exact hlt
  ·rw [Array.getElem?_eq_none hge] at hh; cases hh
theorem keep_cell {w w1 w2 : World} {b o : Nat} {v : Value} (hbw : b < w.heap.size) (h3 : Below w1.heap.size w1 w2) (h1 : w1.cell? ⟨b, o, none⟩ = some v) (h2 : Below w.heap.size w w1) :
  w2.cell? ⟨b, o, none⟩ = some v ∧ Below w.heap.size w w2 :=
 ⟨(h3.cell (p := ⟨b, o, none⟩) (Nat.lt_of_lt_of_le hbw h2.size)).trans h1, h2.trans (h3.mono h2.size)⟩
def OwnR {α : Type} (enc : α → Value) (w : World) (base : Nat) (t : TypeId) (v : Value) (xs : List α) : Prop :=
 (∃ A c, v = .slice A xs.length c) ∧ w.ownsRow base t 1 v xs.length (xs.map enc)
abbrev OwnStrs := OwnR Value.string
abbrev OwnInts := OwnR (Value.int .i64)
section
variable {α : Type} {enc : α → Value} {d : α}
theorem OwnR.below {w w' : World} {base : Nat} {t : TypeId} {v : Value} {xs : List α} (h : OwnR enc w base t v xs) (hb : Below w.heap.size w w') : OwnR enc w' base t v xs := ⟨h.1, own_below h.2 hb⟩
theorem OwnR.alloc {w : World} {base : Nat} {t : TypeId} {v : Value} {xs : List α} (h : OwnR enc w base t v xs) (o : Obj) : OwnR enc (w.alloc o) base t v xs := ⟨h.1, h.2.alloc o⟩
theorem OwnR.reads {w : World} {base : Nat} {t : TypeId} {A : Option Addr} {n c : Nat} {xs : List α} (h : OwnR enc w base t (.slice A n c) xs) : RowR enc d w base w.heap.size A n xs := by
 obtain ⟨⟨A', c', e⟩, h2⟩ := h
 injection e with e1 e2 e3
 subst e2
 exact RowR.of_own h2
theorem OwnR.nil_ (w : World) (base : Nat) (t : TypeId) : OwnR enc w base t (.slice none 0 0) [] := ⟨⟨none, 0, rfl⟩, World.ownsRow_nil _ _ _ _⟩
theorem OwnR.none_ (w : World) (base : Nat) (t : TypeId) (hb : base ≤ w.heap.size) : OwnR enc (w.alloc (.cells #[] t)) base t (.slice (some ⟨w.heap.size, 0, none⟩) 0 0) [] :=
 ⟨⟨_, _, rfl⟩, by simpa using World.ownsRow_lit (base := base) (e := t) (size := 1) w #[] 0 hb (by simp) rfl⟩
theorem wpList_app1 {P : Program} {ops : Array Oper} {rest : List Oper} {o : Oper} {a : Act} {Q : Exit → Act → World → Prop} (hgd : o.guard = none) (s x : Operand) (t e : TypeId)
  (ho : o.op = .call { callee := .builtin .append, args := #[s, x], argTypes := #[t, t] }) (ht : P.underlying t = some (.slice e))
  {z : Value} {by_ : Nat} (hzz : z.cells.size = 1) (hby : by_ ≤ 16) (hone : ∀ x : α, (enc x).oneCell' = true) (hinfo : (P.info? e).map (fun i => (i.zero, i.size, i.bytes)) = some (some z, 1, by_))
  (w : World) (base : Nat) (v : Value) (xs : List α) (y : α) (hs : a.eval s = v) (hown : OwnR enc w base e v xs)
  (hx : a.eval x = .slice (some ⟨w.heap.size, 0, none⟩) 1 1) (hlen : xs.length ≤ 1000000000) (hbase : base ≤ w.heap.size)
  (h : ∀ v' w', OwnR enc w' base e v' (xs ++ [y]) → Below base w w' → wpList P ops Q rest (a.put o.dst v') w') : wpList P ops Q (o :: rest) a (w.alloc (.cells #[enc y] e)) := by
 obtain ⟨i0, hi0, hz0, hz1, hz2⟩ := info_parts hinfo
 refine wpList_append_own _ hgd s x t ho base e i0 _ 1 by_ ht hi0 hz0 hz1 hz2 hzz (by decide) v xs.length (xs.map enc) hs (hown.2.alloc _) ⟨w.heap.size, 0, none⟩ 1 1 [enc y] hx rfl ?_ ?_ (by unfold maxLen; omega) (Nat.le_trans (Nat.mul_le_mul_left _ hby) (by omega)) (by simp; omega) ?_
 ·intro j u hj
  match j, hj with
  | 0, hj => simp at hj; subst hj; simp [Addr.add]
 ·intro u hu; simp at hu; subst hu; exact hone y
 ·intro v' w' h1 h2 _
  have hB : Below base w w' := ((Below.refl base w).alloc hbase _).grown h2 (by simp; omega) (fun k hk => by
   have := hown.2.lt k hk
   omega)
  refine h v' w' ⟨?_, ?_⟩ hB
  ·rcases h1.2 with ⟨e1, e2⟩ | ⟨g, cap, cur, e1, _⟩
   ·omega
   ·exact ⟨some ⟨g, 0, none⟩, cap, by rw [e1]; simp⟩
  ·have e3 : (xs ++ [y]).length = xs.length + 1 := by simp
   rw [e3, List.map_append]
   exact h1
theorem own_mono {w : World} {base base' : Nat} {e : TypeId} {size : Nat} {v : Value} {n : Nat} {xs : List Value} (h : w.ownsRow base e size v n xs) (hb : base' ≤ base) : w.ownsRow base' e size v n xs := by
 refine ⟨h.1, ?_⟩
 rcases h.2 with h2 | ⟨g, cap, cur, h1, hg, r⟩
 ·exact .inl h2
 ·exact .inr ⟨g, cap, cur, h1, by omega, r⟩
theorem OwnR.mono {w : World} {base base' : Nat} {t : TypeId} {v : Value} {xs : List α} (h : OwnR enc w base t v xs) (hb : base' ≤ base) : OwnR enc w base' t v xs := ⟨h.1, own_mono h.2 hb⟩
def Grows {α : Type} (enc : α → Value) (w : World) (base : Nat) (t : TypeId) (v0 v : Value) (xs : List α) : Prop := OwnR enc w base t v xs ∨ (xs = [] ∧ v = v0)
theorem Grows.start (w : World) (base : Nat) (t : TypeId) (v0 : Value) : Grows enc w base t v0 v0 [] := .inr ⟨rfl, rfl⟩
theorem Grows.done {w w1 : World} {base base' : Nat} {t : TypeId} {v0 v : Value} {xs : List α} (h : Grows enc w base t v0 v xs) (h0 : OwnR enc w1 base' t v0 []) (hb : Below w1.heap.size w1 w) (hle : base' ≤ base) : OwnR enc w base' t v xs := by
 rcases h with h | ⟨rfl, rfl⟩
 ·exact h.mono hle
 ·exact h0.below hb
end
def Blk (w : World) (g : Nat) (t : TypeId) (cs : Array Value) : Prop := w.heap[g]? = some (.cells cs t (0, 0))
section
variable {w w' : World} {g : Nat} {t : TypeId} {cs : Array Value}
theorem Blk.lt (h : Blk w g t cs) : g < w.heap.size := by
 rcases Nat.lt_or_ge g w.heap.size with hlt | hge
 ·exact hlt
 ·unfold Blk at h; rw [Array.getElem?_eq_none hge] at h; cases h
theorem Blk.cell (h : Blk w g t cs) (i : Nat) : w.cell? ⟨g, i, none⟩ = cs[i]? := cell_of_row w g i cs t (0, 0) h
theorem Blk.frozen (h : Blk w g t cs) (i : Nat) : w.frozen? ⟨g, i, none⟩ = false := by
 unfold Blk at h
 simp [World.frozen?, h]
theorem Blk.new (w : World) (t : TypeId) (cs : Array Value) : Blk (w.alloc (.cells cs t)) w.heap.size t cs := heap_alloc_new w _
theorem Blk.drewN (h : Blk w g t cs) (n : Nat) : Blk (w.drewN n) g t cs := h
theorem Blk.alloc (h : Blk w g t cs) (o : Obj) : Blk (w.alloc o) g t cs := (Below.heap_alloc w o g h.lt).trans h
theorem Blk.set_ (h : Blk w g t cs) (i : Nat) (u : Value) : Blk (w.setCell ⟨g, i, none⟩ u) g t (cs.setIfInBounds i u) := by
 unfold Blk at h ⊢
 simp [World.setCell, Array.getElem?_modify, h]
theorem Blk.far (h : Blk w g t cs) {p : Addr} (hp : g ≠ p.block) (u : Value) : Blk (w.setCell p u) g t cs := (Below.heap_setCell w p u g hp).trans h
theorem Blk.below {B : Nat} (h : Blk w g t cs) (hb : Below B w w') (hg : g < B) : Blk w' g t cs := (hb.block g hg).trans h
end
def Three (w0 w : World) (t0 t1 t2 : TypeId) (c0 c1 c2 : Array Value) : Prop :=
 Blk w w0.heap.size t0 c0 ∧ Blk w (w0.heap.size + 1) t1 c1 ∧ Blk w (w0.heap.size + 1 + 1) t2 c2 ∧ Below w0.heap.size w0 w
theorem Three.start (w : World) (t0 t1 t2 : TypeId) (c0 c1 c2 : Array Value) : Three w (((w.alloc (.cells c0 t0)).alloc (.cells c1 t1)).alloc (.cells c2 t2)) t0 t1 t2 c0 c1 c2 := by
 refine ⟨((Blk.new w t0 c0).alloc _).alloc _, ?_, ?_, (((Below.refl _ _).alloc (Nat.le_refl _) _).alloc (by simp) _).alloc (by simp; omega) _⟩
 ·have := (Blk.new (w.alloc (.cells c0 t0)) t1 c1).alloc (.cells c2 t2)
  simpa using this
 ·have := Blk.new ((w.alloc (.cells c0 t0)).alloc (.cells c1 t1)) t2 c2
  simpa using this
theorem Three.call {w0 w w1 : World} {t0 t1 t2 : TypeId} {c0 c1 c2 : Array Value} (h : Three w0 w t0 t1 t2 c0 c1 c2) (hb : Below w.heap.size w w1) : Three w0 w1 t0 t1 t2 c0 c1 c2 :=
 ⟨h.1.below hb h.1.lt, h.2.1.below hb h.2.1.lt, h.2.2.1.below hb h.2.2.1.lt, h.2.2.2.trans (hb.mono h.2.2.2.size)⟩
theorem Three.store2 {w0 w : World} {t0 t1 t2 : TypeId} {c0 c1 c2 : Array Value} (h : Three w0 w t0 t1 t2 c0 c1 c2) (j : Nat) (u : Value) : Three w0 (w.setCell ⟨w0.heap.size + 1 + 1, j, none⟩ u) t0 t1 t2 c0 c1 (c2.setIfInBounds j u) :=
 ⟨h.1.far (by simp; omega) u, h.2.1.far (by simp) u, h.2.2.1.set_ j u, h.2.2.2.setCell (by simp; omega) u⟩
theorem run_one_byte {P : Program} (src dst e : TypeId) (hs : P.underlying src = some (.slice e)) (he : P.underlying e = some (.int .u8)) (hd : P.underlying dst = some .string) (w : World) (n : Int) (c : Nat) :
  (convert src dst (.slice (some ⟨w.heap.size, 0, none⟩) 1 c)).run P (w.alloc (.cells #[.int .u8 n] e)) = .ok (.string ⟨#[UInt8.ofNat n.toNat]⟩) (w.alloc (.cells #[.int .u8 n] e)) := by
 have h := run_convert_bytes_arg (P := P) (w.alloc (.cells #[.int .u8 n] e)) src e hs he w.heap.size 0 1 c [n] rfl (fun i hi => by
  obtain rfl : i = 0 := by omega
  simp) dst hd
 exact h
theorem bytes_toList_inj {a b : ByteArray} : a.toList = b.toList ↔ a = b := by
 rw [ByteArray.toList_eq, ByteArray.toList_eq]
 constructor
 ·intro h
  cases a with | mk a => cases b with | mk b =>
  simp only [ByteArray.mk.injEq]
  exact Array.toList_inj.1 h
 ·intro h; rw [h]
theorem beq_bytes_true {a b : ByteArray} (h : (a.toList == b.toList) = true) : a = b := bytes_toList_inj.1 (by simpa using h)
theorem beq_bytes_false {a b : ByteArray} (h : (a.toList == b.toList) = false) : a ≠ b := fun e => by rw [e] at h; simp at h
end Go.Proofs.YtnnabkldceklmaaGreatDoor
/- Shapes: how values of Go's types lie in cells, what they read as, which blocks they own, how they are marked; over any program. -/
namespace Go.Proofs.YtnnabkldceklmaaGreatDoor
open Go.RowKit
def CellsAt (w : World) (b o : Nat) (vs : List Value) : Prop := ∀ i, i < vs.length → w.cell? ⟨b, o + i, none⟩ = vs[i]?
structure Sh (α : Type) where
 k : Nat
 d : α
 R : World → Nat → Nat → List Value → α → Prop
 O : World → List Nat → List Value → α → Prop
 mark : Nat → α → α
 top : Nat → α → α
 cnt : α → Nat
 cntTop : α → Nat
 cost : α → Nat
 fit : Nat → α → Prop
 fit_of : ∀ {m : Nat} {x : α}, cost x ≤ m → fit m x
 R_len : ∀ {w : World} {lo hi : Nat} {vs : List Value} {x : α}, R w lo hi vs x → vs.length = k
 R_one : ∀ {w : World} {lo hi : Nat} {vs : List Value} {x : α}, R w lo hi vs x → ∀ u ∈ vs, u.oneCell' = true
 R_keep : ∀ {w w' : World} {lo hi : Nat} {vs : List Value} {x : α}, R w lo hi vs x → (∀ b, lo ≤ b → b < hi → w'.heap[b]? = w.heap[b]?) → R w' lo hi vs x
 R_more : ∀ {w : World} {lo hi lo' hi' : Nat} {vs : List Value} {x : α}, R w lo hi vs x → lo' ≤ lo → hi ≤ hi' → R w lo' hi' vs x
 O_keep : ∀ {w w' : World} {F : List Nat} {vs : List Value} {x : α}, O w F vs x → (∀ b ∈ F, w'.heap[b]? = w.heap[b]?) → O w' F vs x
 O_lt : ∀ {w : World} {F : List Nat} {vs : List Value} {x : α}, O w F vs x → ∀ b ∈ F, b < w.heap.size
 O_R : ∀ {w : World} {F : List Nat} {vs : List Value} {x : α} {lo hi : Nat}, O w F vs x → (∀ b ∈ F, lo ≤ b ∧ b < hi) → R w lo hi vs x
def Sh.one {α : Type} (enc : α → Value) (d : α) (m : Nat → α) (co : α → Nat) (h1 : ∀ x, (enc x).oneCell' = true) : Sh α where
 k := 1
 d := d
 R := fun _ _ _ vs x => vs = [enc x]
 O := fun _ F vs x => F = [] ∧ vs = [enc x]
 mark := fun k _ => m k
 top := fun _ x => x
 cnt := fun _ => 1
 cntTop := fun _ => 0
 cost := co
 fit := fun m x => co x ≤ m
 fit_of := fun h => h
 R_len := fun h => by rw [h]; rfl
 R_one := fun h u hu => by rw [h] at hu; simp at hu; rw [hu]; exact h1 _
 R_keep := fun h _ => h
 R_more := fun h _ _ => h
 O_keep := fun h _ => h
 O_lt := fun h b hb => by rw [h.1] at hb; cases hb
 O_R := fun h _ => h.2
def Sh.prod {α β : Type} (a : Sh α) (b : Sh β) : Sh (α × β) where
 k := a.k + b.k
 d := (a.d, b.d)
 R := fun w lo hi vs x => ∃ us ws, vs = us ++ ws ∧ a.R w lo hi us x.1 ∧ b.R w lo hi ws x.2
 O := fun w F vs x => ∃ us ws F1 F2, vs = us ++ ws ∧ F = F1 ++ F2 ∧ a.O w F1 us x.1 ∧ b.O w F2 ws x.2
 mark := fun k x => (a.mark k x.1, b.mark (k + a.cnt x.1) x.2)
 top := fun k x => (a.top k x.1, b.top (k + a.cntTop x.1) x.2)
 cnt := fun x => a.cnt x.1 + b.cnt x.2
 cntTop := fun x => a.cntTop x.1 + b.cntTop x.2
 cost := fun x => a.cost x.1 + b.cost x.2
 fit := fun m x => a.fit m x.1 ∧ b.fit m x.2
 fit_of := fun h => ⟨a.fit_of (by omega), b.fit_of (by omega)⟩
 R_len := fun ⟨us, ws, e, h1, h2⟩ => by rw [e, List.length_append, a.R_len h1, b.R_len h2]
 R_one := fun ⟨us, ws, e, h1, h2⟩ u hu => by
  rw [e] at hu
  rcases List.mem_append.1 hu with hu | hu
  ·exact a.R_one h1 u hu
  ·exact b.R_one h2 u hu
 R_keep := fun ⟨us, ws, e, h1, h2⟩ hk => ⟨us, ws, e, a.R_keep h1 hk, b.R_keep h2 hk⟩
 R_more := fun ⟨us, ws, e, h1, h2⟩ hl hh => ⟨us, ws, e, a.R_more h1 hl hh, b.R_more h2 hl hh⟩
 O_keep := fun ⟨us, ws, F1, F2, e, eF, h1, h2⟩ hk => ⟨us, ws, F1, F2, e, eF, a.O_keep h1 fun b hb => hk b (by rw [eF]; exact List.mem_append_left _ hb), b.O_keep h2 fun b hb => hk b (by rw [eF]; exact List.mem_append_right _ hb)⟩
 O_lt := fun ⟨us, ws, F1, F2, e, eF, h1, h2⟩ c hc => by
  rw [eF] at hc
  rcases List.mem_append.1 hc with hc | hc
  ·exact a.O_lt h1 c hc
  ·exact b.O_lt h2 c hc
 O_R := fun ⟨us, ws, F1, F2, e, eF, h1, h2⟩ hr => ⟨us, ws, e, a.O_R h1 fun b hb => hr b (by rw [eF]; exact List.mem_append_left _ hb), b.O_R h2 fun b hb => hr b (by rw [eF]; exact List.mem_append_right _ hb)⟩
def RowG {α : Type} (s : Sh α) (w : World) (lo hi : Nat) (A : Option Addr) (xs : List α) : Prop :=
 0 < xs.length → ∃ b off, A = some ⟨b, off, none⟩ ∧ lo ≤ b ∧ b < hi ∧ ∀ j, j < xs.length → ∃ us, CellsAt w b (off + j * s.k) us ∧ s.R w lo hi us (xs.getD j s.d)
def elemAt (k : Nat) (cs : List Value) (j : Nat) : List Value := (cs.drop (j * k)).take k
theorem elemAt_len {k n : Nat} {cs : List Value} (h : cs.length = n * k) {j : Nat} (hj : j < n) : (elemAt k cs j).length = k := by
 have h1 : (j + 1) * k ≤ n * k := Nat.mul_le_mul_right k hj
 have h2 : (j + 1) * k = j * k + k := by rw [Nat.add_mul]; omega
 simp only [elemAt, List.length_take, List.length_drop, h]
 omega
theorem elemAt_get {k : Nat} {cs : List Value} {j i : Nat} (hi : i < k) : (elemAt k cs j)[i]? = cs[j * k + i]? := by
 simp only [elemAt, List.getElem?_take, List.getElem?_drop, if_pos hi]
theorem mul_lt {j n k i : Nat} (hj : j < n) (hi : i < k) : j * k + i < n * k := by
 have h1 : (j + 1) * k ≤ n * k := Nat.mul_le_mul_right k hj
 have h2 : (j + 1) * k = j * k + k := by rw [Nat.add_mul]; omega
 omega
theorem elemAt_ext {k : Nat} {cs us : List Value} {j n : Nat} (hn : cs.length = n * k) (hj : j < n) (hu : us.length = k) (h : ∀ i, i < k → cs[j * k + i]? = us[i]?) : elemAt k cs j = us := by
 apply List.ext_getElem?
 intro i
 by_cases hi : i < k
 ·rw [elemAt_get hi, h i hi]
 ·rw [List.getElem?_eq_none (by rw [elemAt_len hn hj]; omega), List.getElem?_eq_none (by omega)]
def mkAll {α : Type} (s : Sh α) : Nat → List α → List α
 | _, [] => []
 | k, x :: xs => s.mark k x :: mkAll s (k + s.cnt x) xs
def cntAll {α : Type} (s : Sh α) (xs : List α) : Nat := (xs.map s.cnt).sum
theorem mkAll_len {α : Type} (s : Sh α) (k : Nat) (xs : List α) : (mkAll s k xs).length = xs.length := by
 induction xs generalizing k with
 | nil => rfl
 | cons x xs ih => simp [mkAll, ih]
def costAll {α : Type} (s : Sh α) (xs : List α) : Nat := xs.length + (xs.map s.cost).sum
theorem costAll_mem {α : Type} (s : Sh α) {xs : List α} {x : α} (h : x ∈ xs) : s.cost x ≤ costAll s xs := by
 unfold costAll
 induction xs with
 | nil => cases h
 | cons y ys ih =>
  rcases List.mem_cons.1 h with rfl | h
  ·simp; omega
  ·have := ih h; simp; omega
def Sh.row {α : Type} (t : TypeId) (s : Sh α) : Sh (List α) where
 k := 1
 d := []
 R := fun w lo hi vs xs => ∃ A c, vs = [.slice A xs.length c] ∧ RowG s w lo hi A xs
 O := fun w F vs xs => ∃ A c cs Fs, vs = [.slice A xs.length c] ∧ w.ownsRow 0 t s.k (.slice A xs.length c) xs.length cs ∧
  F = (Value.slice A xs.length c).ownBlock.toList ++ (List.range xs.length).flatMap Fs ∧ ∀ j, j < xs.length → s.O w (Fs j) (elemAt s.k cs j) (xs.getD j s.d)
 mark := mkAll s
 top := mkAll s
 cnt := cntAll s
 cntTop := cntAll s
 cost := costAll s
 fit := fun m xs => xs.length ≤ m ∧ ∀ x ∈ xs, s.fit m x
 fit_of := fun h => ⟨by unfold costAll at h; omega, fun x hx => s.fit_of (by have := costAll_mem s hx; omega)⟩
 R_len := fun ⟨A, c, e, _⟩ => by rw [e]; rfl
 R_one := fun ⟨A, c, e, _⟩ u hu => by rw [e] at hu; simp at hu; rw [hu]; rfl
 R_keep := fun ⟨A, c, e, h⟩ hk => ⟨A, c, e, fun hn => by
  obtain ⟨b, off, e1, h1, h2, hc⟩ := h hn
  refine ⟨b, off, e1, h1, h2, fun j hj => ?_⟩
  obtain ⟨us, h3, h4⟩ := hc j hj
  exact ⟨us, fun i hi => (World.cell?_of_block (hk b h1 h2)).trans (h3 i hi), s.R_keep h4 hk⟩⟩
 R_more := fun ⟨A, c, e, h⟩ hl hh => ⟨A, c, e, fun hn => by
  obtain ⟨b, off, e1, h1, h2, hc⟩ := h hn
  refine ⟨b, off, e1, by omega, by omega, fun j hj => ?_⟩
  obtain ⟨us, h3, h4⟩ := hc j hj
  exact ⟨us, h3, s.R_more h4 hl hh⟩⟩
 O_keep := fun {w w' F vs xs} ⟨A, c, cs, Fs, e, ho, eF, h⟩ hk => ⟨A, c, cs, Fs, e, by
  refine ⟨ho.1, ?_⟩
  rcases ho.2 with h1 | ⟨g, cap, cur, h1, h2, h3, h4⟩
  ·exact .inl h1
  ·refine .inr ⟨g, cap, cur, h1, h2, ?_, h4⟩
   rw [hk g (by rw [eF, h1]; simp [Value.ownBlock])]
   exact h3, eF, fun j hj => s.O_keep (h j hj) fun b hb => hk b (by rw [eF]; exact List.mem_append_right _ (List.mem_flatMap.2 ⟨j, List.mem_range.2 hj, hb⟩))⟩
 O_lt := fun {w F vs xs} ⟨A, c, cs, Fs, e, ho, eF, h⟩ b hb => by
  rw [eF] at hb
  rcases List.mem_append.1 hb with hb | hb
  ·exact (ho.lt b (by simpa using hb)).2
  ·obtain ⟨j, hj, hb⟩ := List.mem_flatMap.1 hb
   exact s.O_lt (h j (List.mem_range.1 hj)) b hb
 O_R := fun {w F vs xs lo hi} ⟨A, c, cs, Fs, e, ho, eF, h⟩ hr => ⟨A, c, e, fun hn => by
  rcases ho.2 with ⟨_, h0⟩ | ⟨g, cap, cur, h1, h2, h3, h4, h5, h6, h7⟩
  ·omega
  ·have e1 : A = some ⟨g, 0, none⟩ := by injection h1
   obtain ⟨r1, r2⟩ := hr g (by rw [eF, h1]; simp [Value.ownBlock])
   refine ⟨g, 0, e1, r1, r2, fun j hj => ⟨elemAt s.k cs j, fun i hi => ?_, s.O_R (h j hj) fun b hb => hr b (by rw [eF]; exact List.mem_append_right _ (List.mem_flatMap.2 ⟨j, List.mem_range.2 hj, hb⟩))⟩⟩
   rw [elemAt_len ho.1 hj] at hi
   have hlt := mul_lt hj hi
   rw [elemAt_get hi, cell_of_row w g _ cur t (0, 0) h3, ← h7, List.getElem?_take, if_pos (by omega), Nat.zero_add, Array.getElem?_toList]⟩
section
variable {α : Type} {s : Sh α} {w w' : World} {lo hi B : Nat} {vs : List Value} {x : α} {F : List Nat}
theorem Sh.R_below (h : s.R w lo hi vs x) (hb : Below B w w') (hB : hi ≤ B) : s.R w' lo hi vs x := s.R_keep h fun b _ h2 => hb.block b (by omega)
def Own (s : Sh α) (w : World) (lo hi : Nat) (vs : List Value) (x : α) : Prop := ∃ F, s.O w F vs x ∧ F.Nodup ∧ ∀ b ∈ F, lo ≤ b ∧ b < hi
theorem Own.reads (h : Own s w lo hi vs x) : s.R w lo hi vs x := by
 obtain ⟨F, h1, _, h3⟩ := h
 exact s.O_R h1 h3
theorem Own.len (h : Own s w lo hi vs x) : vs.length = s.k := s.R_len h.reads
theorem Own.keep (h : Own s w lo hi vs x) (hk : ∀ b, lo ≤ b → b < hi → w'.heap[b]? = w.heap[b]?) : Own s w' lo hi vs x := by
 obtain ⟨F, h1, h2, h3⟩ := h
 exact ⟨F, s.O_keep h1 fun b hb => hk b (h3 b hb).1 (h3 b hb).2, h2, h3⟩
theorem Own.below (h : Own s w lo hi vs x) (hb : Below B w w') (hB : hi ≤ B) : Own s w' lo hi vs x := h.keep fun b _ h2 => hb.block b (by omega)
theorem Own.more {lo' hi' : Nat} (h : Own s w lo hi vs x) (hl : lo' ≤ lo) (hh : hi ≤ hi') : Own s w lo' hi' vs x := by
 obtain ⟨F, h1, h2, h3⟩ := h
 exact ⟨F, h1, h2, fun b hb => by have := h3 b hb; omega⟩
def Above (B : Nat) (w w' : World) : Prop := ∀ b, B ≤ b → w'.heap[b]? = w.heap[b]?
theorem Above.refl (B : Nat) (w : World) : Above B w w := fun _ _ => rfl
theorem Above.setCell {w1 : World} (h : Above B w w1) {p : Addr} (hp : p.block < B) (u : Value) : Above B w (w1.setCell p u) := fun b hb =>
 (Below.heap_setCell w1 p u b (by omega)).trans (h b hb)
theorem Own.above (h : Own s w lo hi vs x) (ha : Above B w w') (hB : B ≤ lo) : Own s w' lo hi vs x := h.keep fun b h1 _ => ha b (by omega)
theorem Own.one {α : Type} {enc : α → Value} {d : α} {m : Nat → α} {co : α → Nat} {h1 : ∀ x, (enc x).oneCell' = true} (w : World) (lo hi : Nat) (x : α) : Own (Sh.one enc d m co h1) w lo hi [enc x] x :=
 ⟨[], ⟨rfl, rfl⟩, List.nodup_nil, fun b hb => by cases hb⟩
theorem Own.prod {α β : Type} {a : Sh α} {b : Sh β} {w : World} {lo m m' hi : Nat} {us ws : List Value} {x : α} {y : β} (h1 : Own a w lo m us x) (h2 : Own b w m' hi ws y) (hm : m ≤ m') (hl : lo ≤ m') (hh : m ≤ hi) : Own (a.prod b) w lo hi (us ++ ws) (x, y) := by
 obtain ⟨F1, o1, n1, r1⟩ := h1
 obtain ⟨F2, o2, n2, r2⟩ := h2
 refine ⟨F1 ++ F2, ⟨us, ws, F1, F2, rfl, rfl, o1, o2⟩, ?_, fun c hc => ?_⟩
 ·refine List.nodup_append.2 ⟨n1, n2, fun c hc c' hc' e => ?_⟩
  have := r1 c hc; have := r2 c' hc'; omega
 ·rcases List.mem_append.1 hc with hc | hc
  ·have := r1 c hc; omega
  ·have := r2 c hc; omega
end
structure Upd (cs cs' : Array Value) (o k : Nat) (us : List Value) : Prop where
 size : cs'.size = cs.size
 len : us.length = k
 fits : o + k ≤ cs.size
 here : ∀ i, i < k → cs'[o + i]? = us[i]?
 far : ∀ p, p < o ∨ o + k ≤ p → cs'[p]? = cs[p]?
theorem Upd.start {cs : Array Value} {o k : Nat} {us : List Value} (hl : us.length = k) (hf : o + k ≤ cs.size) (h : ∀ i, i < k → cs[o + i]? = us[i]?) : Upd cs cs o k us := ⟨rfl, hl, hf, h, fun _ _ => rfl⟩
theorem Upd.begin_ {cs : Array Value} {o k : Nat} (hf : o + k ≤ cs.size) : ∃ us, Upd cs cs o k us := by
 refine ⟨(cs.toList.drop o).take k, rfl, ?_, hf, fun i hi => ?_, fun _ _ => rfl⟩
 ·simp; omega
 ·rw [List.getElem?_take, if_pos hi, List.getElem?_drop, Array.getElem?_toList]
theorem Upd.step {cs cs' : Array Value} {o k : Nat} {us : List Value} (h : Upd cs cs' o k us) {i : Nat} (hi : i < k) (v : Value) : Upd cs (cs'.setIfInBounds (o + i) v) o k (us.set i v) := by
 have h1 := h.size; have h2 := h.len; have h3 := h.fits
 refine ⟨by simp [h1], by simp [h2], h3, fun j hj => ?_, fun p hp => ?_⟩
 ·by_cases e : j = i
  ·subst e
   rw [Array.getElem?_setIfInBounds_self_of_lt (by omega), List.getElem?_set_self (by omega)]
  ·rw [Array.getElem?_setIfInBounds_ne (by omega), List.getElem?_set_ne (by omega)]
   exact h.here j hj
 ·rw [Array.getElem?_setIfInBounds_ne (by omega)]
  exact h.far p hp
abbrev zz8 : Array Value := #[.int .i64 0, .int .i64 0, .int .i64 0, .slice none 0 0]
abbrev zz9 : Array Value := #[.int .i64 0, .slice none 0 0, .slice none 0 0, .int .i64 0, .int .i64 0, .int .i64 0, .slice none 0 0, .int .i64 0, .int .i64 0, .int .i64 0, .slice none 0 0, .slice none 0 0, .slice none 0 0]
abbrev zz11 : Array Value := #[.bool false, .slice none 0 0, .slice none 0 0, .slice none 0 0]
abbrev zz12 : Array Value := #[.int .i64 0, .bool false, .slice none 0 0, .slice none 0 0, .slice none 0 0]
end Go.Proofs.YtnnabkldceklmaaGreatDoor
