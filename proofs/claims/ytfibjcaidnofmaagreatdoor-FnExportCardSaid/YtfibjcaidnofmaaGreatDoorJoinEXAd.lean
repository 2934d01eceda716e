/- Words for the walk of a law: facts that lie in a range of blocks, and how they are kept. Over any program. -/
import Derived.Test.YtfibjcaidnofmaaGreatDoorJoinEXAa
import Derived.Test.YtfibjcaidnofmaaGreatDoorProg
import Derived.Test.YtfibjcaidnofmaaGreatDoorJoinEXAc
namespace Go.Proofs.YtfibjcaidnofmaaGreatDoor
open Go.RowKit

/-- Only blocks from lo up to, not including, hi have changed; there may be new ones. -/
structure Within (lo hi : Nat) (w w' : World) : Prop where
  os : w'.os = w.os
  tape : w'.tape = w.tape
  output : w'.output = w.output
  size : w.heap.size ≤ w'.heap.size
  block : ∀ k, k < w.heap.size → (k < lo ∨ hi ≤ k) → w'.heap[k]? = w.heap[k]?

theorem Within.below {lo hi : Nat} {w w' : World} (h : Within lo hi w w') (hlo : lo ≤ w.heap.size) : Below lo w w' := ⟨h.os, h.tape, h.output, h.size, fun k hk => h.block k (by omega) (.inl hk)⟩
theorem Within.trans {lo hi : Nat} {w w1 w2 : World} (h : Within lo hi w w1) (k : Within lo hi w1 w2) : Within lo hi w w2 :=
  ⟨k.os.trans h.os, k.tape.trans h.tape, k.output.trans h.output, Nat.le_trans h.size k.size, fun i hi h' => (k.block i (Nat.lt_of_lt_of_le hi h.size) h').trans (h.block i hi h')⟩
theorem Within.of_below {lo hi : Nat} {w w' : World} (h : Below w.heap.size w w') : Within lo hi w w' := ⟨h.os, h.tape, h.output, h.size, fun k hk _ => h.block k hk⟩
theorem Within.more {lo hi lo' hi' : Nat} {w w' : World} (h : Within lo hi w w') (h1 : lo' ≤ lo) (h2 : hi ≤ hi') : Within lo' hi' w w' :=
  ⟨h.os, h.tape, h.output, h.size, fun k hk hd => h.block k hk (by omega)⟩

/-- A fact that hangs on the blocks from lo up to, not including, hi alone. -/
def Loc (lo hi : Nat) (F : World → Prop) : Prop := ∀ w w' : World, (∀ b, lo ≤ b → b < hi → w'.heap[b]? = w.heap[b]?) → F w → F w'

abbrev Facts := List (Nat × Nat × (World → Prop))

/-- What lay in w0 is as it was, and all the facts stand. -/
def Stand (w0 : World) (Fs : Facts) (w : World) : Prop := Below w0.heap.size w0 w ∧ ∀ f ∈ Fs, Loc f.1 f.2.1 f.2.2 ∧ f.2.1 ≤ w.heap.size ∧ f.2.2 w

section
variable {w0 w w' : World} {Fs : Facts}
theorem Stand.nil (w : World) : Stand w [] w := ⟨Below.refl _ _, fun f hf => by simp at hf⟩
theorem Stand.below (h : Stand w0 Fs w) (hb : Below w.heap.size w w') : Stand w0 Fs w' := ⟨h.1.trans (hb.mono h.1.size), fun f hf => by
  obtain ⟨h1, h2, h3⟩ := h.2 f hf
  exact ⟨h1, Nat.le_trans h2 hb.size, h1 w w' (fun b _ hb' => hb.block b (by omega)) h3⟩⟩
theorem Stand.alloc (h : Stand w0 Fs w) (o : Obj) : Stand w0 Fs (w.alloc o) := h.below ((Below.refl _ _).alloc (Nat.le_refl _) o)
theorem Stand.drew (h : Stand w0 Fs w) : Stand w0 Fs w.drew := h.below (below_drewN' w 1)
theorem Stand.within {a b : Nat} (h : Stand w0 Fs w) (hw : Within a b w w') (h0 : w0.heap.size ≤ a) (hd : ∀ f ∈ Fs, f.2.1 ≤ a ∨ b ≤ f.1) : Stand w0 Fs w' :=
  ⟨h.1.trans ⟨hw.os, hw.tape, hw.output, hw.size, fun k hk => hw.block k (by have := h.1.size; omega) (.inl (by omega))⟩, fun f hf => by
    obtain ⟨h1, h2, h3⟩ := h.2 f hf
    have := hd f hf
    exact ⟨h1, Nat.le_trans h2 hw.size, h1 w w' (fun k hk1 hk2 => hw.block k (by omega) (by omega)) h3⟩⟩
theorem Stand.add (h : Stand w0 Fs w) (lo hi : Nat) (F : World → Prop) (L : Loc lo hi F) (hh : hi ≤ w.heap.size) (hF : F w) : Stand w0 ((lo, hi, F) :: Fs) w := ⟨h.1, fun f hf => by
  rcases List.mem_cons.1 hf with rfl | hf
  · exact ⟨L, hh, hF⟩
  · exact h.2 f hf⟩
theorem Stand.le (h : Stand w0 Fs w) (i : Nat) {lo hi : Nat} {F : World → Prop} (hi' : Fs[i]? = some (lo, hi, F)) : hi ≤ w.heap.size :=
  (h.2 (lo, hi, F) (List.mem_of_getElem? hi')).2.1
end

end Go.Proofs.YtfibjcaidnofmaaGreatDoor

/- Walks of the helpers on slices of strings: eqStringS, markText, markStringS, heldStringS. -/
namespace Go.Proofs.YtfibjcaidnofmaaGreatDoor
open Go.RowKit

/-- The digits of k ahead of a text, as the marks' loop puts them. -/
def digitsOn : Nat → Nat → ByteArray → ByteArray
  | 0, _, out => out
  | f + 1, k, out => if 0 < k then digitsOn f (k / 10) (⟨#[48 + UInt8.ofNat (k % 10)]⟩ ++ out) else out

def markT (k : Nat) : ByteArray := ⟨#[109]⟩ ++ digitsOn k k ByteArray.empty

end Go.Proofs.YtfibjcaidnofmaaGreatDoor

/- Walks of the helpers on slices: szStringS, toStringS, szInt64S, toInt64S, eqInt64S. -/
namespace Go.Proofs.YtfibjcaidnofmaaGreatDoor
open Go.RowKit

theorem infoString : (Tryz.prog.info? 9).map (fun i => (i.zero, i.size, i.bytes)) = some (some (.string ⟨#[]⟩), 1, 16) := by kernel_rfl
theorem make_row {P : Program} {α : Type} (enc : α → Value) (d : α) (t e : TypeId) (ht : P.underlying t = some (.slice e)) {by_ : Nat} (hby : by_ ≤ 16) (hone : (enc d).cells = #[enc d])
    (hinfo : (P.info? e).map (fun i => (i.zero, i.size, i.bytes)) = some (some (enc d), 1, by_)) (n : Nat) (hn : n ≤ 1048576) (w : World) :
    (Instr.makeSlice t (.int .i64 (n : Int)) (.int .i64 (n : Int))).run P w = .ok (.slice (some ⟨w.heap.size, 0, none⟩) n n) (w.alloc (.cells (List.replicate n (enc d)).toArray e)) := by
  obtain ⟨i0, hi0, hz0, hz1, hz2⟩ := info_parts hinfo
  have hb : (i0.bytes : Int) * (n : Int) ≤ 281474976710656 := by
    have h : ((i0.bytes * n : Nat) : Int) ≤ 281474976710656 := by
      have := Nat.mul_le_mul (show i0.bytes ≤ 16 by omega) hn
      omega
    rwa [Int.natCast_mul] at h
  have hr := run_make (P := P) w t e i0 (enc d) ht hi0 hz0 .i64 .i64 n n (by omega) (by omega) hb (by omega)
  simp only [Int.toNat_natCast] at hr
  rw [hr, hz1, Nat.mul_one, hone]
  congr 3
  rw [← Array.toList_inj, toList_madeCells_one]

end Go.Proofs.YtfibjcaidnofmaaGreatDoor

/- Marks of an operation of two sites: rows of texts and of numbers. -/
namespace Go.Proofs.YtfibjcaidnofmaaGreatDoor
open Go.RowKit

end Go.Proofs.YtfibjcaidnofmaaGreatDoor

/- Nodes: their values; walks of szNode, toNode, eqNode. -/
namespace Go.Proofs.YtfibjcaidnofmaaGreatDoor
open Go.RowKit

structure Nod where
  name : ByteArray
  subs : List ByteArray
  value : ByteArray
def nodD : Nod := ⟨ByteArray.empty, [], ByteArray.empty⟩

/-- The value v of a node reads as x. -/
def NodR (w : World) (lo hi : Nat) (v : Value) (x : Nod) : Prop :=
  ∃ A c, v = .agg #[.string x.name, .slice A x.subs.length c, .string x.value] ∧ StrR w lo hi A x.subs.length x.subs
theorem NodR.keep {w w' : World} {lo hi : Nat} {v : Value} {x : Nod} (h : NodR w lo hi v x) (hk : ∀ b, lo ≤ b → b < hi → w'.heap[b]? = w.heap[b]?) : NodR w' lo hi v x := by
  obtain ⟨A, c, hv, h1⟩ := h
  exact ⟨A, c, hv, h1.keep hk⟩
theorem NodR.below {w w' : World} {lo hi B : Nat} {v : Value} {x : Nod} (h : NodR w lo hi v x) (hb : Below B w w') (hB : hi ≤ B) : NodR w' lo hi v x :=
  h.keep fun b _ h2 => hb.block b (by omega)
theorem NodR.more {w : World} {lo hi lo' hi' : Nat} {v : Value} {x : Nod} (h : NodR w lo hi v x) (h1 : lo' ≤ lo) (h2 : hi ≤ hi') : NodR w lo' hi' v x := by
  obtain ⟨A, c, hv, h3⟩ := h
  exact ⟨A, c, hv, h3.more h1 h2⟩
def NodSmall (x : Nod) : Prop := x.name.size ≤ 1048576 ∧ x.value.size ≤ 1048576 ∧ x.subs.length ≤ 1048576 ∧ ∀ y ∈ x.subs, y.size ≤ 1048576
/-- What toNode gives, as a reading. -/
theorem NodR.of_own {w : World} {base : Nat} {x : Nod} {A : Option Addr} {c : Nat} (h : w.ownsRow base 9 1 (.slice A x.subs.length c) x.subs.length (x.subs.map Value.string)) :
    NodR w base w.heap.size (.agg #[.string x.name, .slice A x.subs.length c, .string x.value]) x := ⟨A, c, rfl, StrR.of_own h⟩

end Go.Proofs.YtfibjcaidnofmaaGreatDoor
