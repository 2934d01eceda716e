/- An operation of a site: its plain form, and how its value lies in memory. -/
import Derived.Test.YtmeholhmadeehaaGreatDoorJoinFLAa
namespace Go.Proofs.YtmeholhmadeehaaGreatDoor
open Go.RowKit

structure Act where
  k : Int
  a : Int
  r : ByteArray
  l : ByteArray
  args : List ByteArray
  input : List ByteArray
  keep : List Int

/-- The value of an operation of a site, and where its lists lie. -/
def ActR (w : World) (lo hi : Nat) (v : Value) (x : Act) : Prop :=
  ∃ A c B d C e, v = .agg #[.int .i64 x.k, .int .i64 x.a, .string x.r, .string x.l, .slice A x.args.length c, .slice B x.input.length d, .slice C x.keep.length e] ∧
    StrR w lo hi A x.args.length x.args ∧ StrR w lo hi B x.input.length x.input ∧ IntR w lo hi C x.keep.length x.keep

def ActSmall (x : Act) : Prop := x.r.size ≤ 1048576 ∧ x.l.size ≤ 1048576 ∧ x.args.length ≤ 1048576 ∧ x.input.length ≤ 1048576 ∧ x.keep.length ≤ 1048576 ∧ (∀ y ∈ x.args, y.size ≤ 1048576) ∧ (∀ y ∈ x.input, y.size ≤ 1048576)

theorem ActR.below {w w' : World} {lo hi B : Nat} {v : Value} {x : Act} (h : ActR w lo hi v x) (hb : Below B w w') (hB : hi ≤ B) : ActR w' lo hi v x := by
  obtain ⟨A, c, B', d, C, e, hv, h1, h2, h3⟩ := h
  exact ⟨A, c, B', d, C, e, hv, h1.below hb hB, h2.below hb hB, h3.below hb hB⟩


end Go.Proofs.YtmeholhmadeehaaGreatDoor

/- Walks: toSiteAct, szSiteAct, eqSiteAct. -/
namespace Go.Proofs.YtmeholhmadeehaaGreatDoor
open Go.RowKit
theorem szStringS_m (A : Option Addr) (n c lo hi : Nat) (left : Int) (xs : List ByteArray) (w : World) (ha : StrR w lo hi A n xs) (hn : n ≤ 9223372036854775807) (hl0 : 0 ≤ left) (hl : left ≤ 1048576) (hb : ∀ x ∈ xs, x.size ≤ 9223372036854775807) :
    Calls Tryz.prog 22 #[.slice A n c, .int .i64 left] w fun e w' => ∃ m, e = .returned (.int .i64 m) ∧ Left left (costStrs xs) m ∧ w = w' := by
  obtain ⟨k, rfl⟩ := Int.eq_ofNat_of_zero_le hl0
  refine (szStringS_any A n c lo hi k xs w ha hn (by omega) hb).mono fun e w' ⟨he, hw⟩ => ⟨_, he, ?_, hw.symm⟩
  unfold leftStrs Left costStrs
  split
  · right; omega
  · left; rfl

def costAct (x : Act) : Nat := x.r.size + x.l.size + costStrs x.args + costStrs x.input + x.keep.length

/-- Each list and each text of the argument is within the form's reach. -/
def ActReach (x : Act) : Prop := x.r.size ≤ 9223372036854775807 ∧ x.l.size ≤ 9223372036854775807 ∧ x.args.length ≤ 9223372036854775807 ∧ x.input.length ≤ 9223372036854775807 ∧ x.keep.length ≤ 9223372036854775807 ∧
  (∀ y ∈ x.args, y.size ≤ 9223372036854775807) ∧ (∀ y ∈ x.input, y.size ≤ 9223372036854775807)

theorem ActSmall.of_cost {x : Act} (h : costAct x ≤ 1048576) : ActSmall x := by
  unfold costAct costStrs at h
  exact ⟨by omega, by omega, by omega, by omega, by omega, fun y hy => by have := mem_le_sizeAll hy; omega, fun y hy => by have := mem_le_sizeAll hy; omega⟩

end Go.Proofs.YtmeholhmadeehaaGreatDoor

/- Words for the walk of a law: facts that lie in a range of blocks, and how they are kept. Over any program. -/
namespace Go.Proofs.YtmeholhmadeehaaGreatDoor
open Go.RowKit

/-- Only blocks from lo up to, not including, hi have changed; there may be new ones. -/
structure Within (lo hi : Nat) (w w' : World) : Prop where
  os : w'.os = w.os
  tape : w'.tape = w.tape
  output : w'.output = w.output
  size : w.heap.size ≤ w'.heap.size
  block : ∀ k, k < w.heap.size → (k < lo ∨ hi ≤ k) → w'.heap[k]? = w.heap[k]?

theorem Within.below {lo hi : Nat} {w w' : World} (h : Within lo hi w w') (hlo : lo ≤ w.heap.size) : Below lo w w' := ⟨h.os, h.tape, h.output, h.size, fun k hk => h.block k (by omega) (.inl hk)⟩
theorem Within.of_grown {w w' : World} {row : Option Nat} {lo hi : Nat} (hg : w.grownBy w' row) (hr : ∀ g, row = some g → lo ≤ g ∧ g < hi) : Within lo hi w w' :=
  ⟨hg.os, hg.tape, hg.output, hg.size, fun k hk h => hg.block k hk (fun e => by have := hr k e.symm; omega)⟩
theorem Within.trans {lo hi : Nat} {w w1 w2 : World} (h : Within lo hi w w1) (k : Within lo hi w1 w2) : Within lo hi w w2 :=
  ⟨k.os.trans h.os, k.tape.trans h.tape, k.output.trans h.output, Nat.le_trans h.size k.size, fun i hi h' => (k.block i (Nat.lt_of_lt_of_le hi h.size) h').trans (h.block i hi h')⟩
theorem Within.of_below {lo hi : Nat} {w w' : World} (h : Below w.heap.size w w') : Within lo hi w w' := ⟨h.os, h.tape, h.output, h.size, fun k hk _ => h.block k hk⟩
theorem Within.more {lo hi lo' hi' : Nat} {w w' : World} (h : Within lo hi w w') (h1 : lo' ≤ lo) (h2 : hi ≤ hi') : Within lo' hi' w w' :=
  ⟨h.os, h.tape, h.output, h.size, fun k hk hd => h.block k hk (by omega)⟩

/-- A fact that hangs on the blocks from lo up to, not including, hi alone. -/
def Loc (lo hi : Nat) (F : World → Prop) : Prop := ∀ w w' : World, (∀ b, lo ≤ b → b < hi → w'.heap[b]? = w.heap[b]?) → F w → F w'

theorem loc_blk (g : Nat) (t : TypeId) (cs : Array Value) : Loc g (g + 1) (fun w => Blk w g t cs) := fun _ _ hk h => (hk g (Nat.le_refl _) (by omega)).trans h

abbrev Facts := List (Nat × Nat × (World → Prop))

/-- What lay in w0 is as it was, and all the facts stand. -/
def Stand (w0 : World) (Fs : Facts) (w : World) : Prop := Below w0.heap.size w0 w ∧ ∀ f ∈ Fs, Loc f.1 f.2.1 f.2.2 ∧ f.2.1 ≤ w.heap.size ∧ f.2.2 w

section
variable {w0 w w' : World} {Fs : Facts}
theorem Stand.nil (w : World) : Stand w [] w := ⟨Below.refl _ _, fun f hf => by simp at hf⟩
theorem Stand.below (h : Stand w0 Fs w) (hb : Below w.heap.size w w') : Stand w0 Fs w' := ⟨h.1.trans (hb.mono h.1.size), fun f hf => by
  obtain ⟨h1, h2, h3⟩ := h.2 f hf
  exact ⟨h1, Nat.le_trans h2 hb.size, h1 w w' (fun b _ hb' => hb.block b (by omega)) h3⟩⟩
theorem Stand.alloc (h : Stand w0 Fs w) (o : Obj) : Stand w0 Fs (w.alloc o) := h.below ((Below.refl _ _).alloc (Nat.le_refl _) o)
theorem Stand.drew (h : Stand w0 Fs w) : Stand w0 Fs w.drew := h.below (below_drewN' w 1)
theorem Stand.within {a b : Nat} (h : Stand w0 Fs w) (hw : Within a b w w') (h0 : w0.heap.size ≤ a) (hd : ∀ f ∈ Fs, f.2.1 ≤ a ∨ b ≤ f.1) : Stand w0 Fs w' :=
  ⟨h.1.trans ⟨hw.os, hw.tape, hw.output, hw.size, fun k hk => hw.block k (by have := h.1.size; omega) (.inl (by omega))⟩, fun f hf => by
    obtain ⟨h1, h2, h3⟩ := h.2 f hf
    have := hd f hf
    exact ⟨h1, Nat.le_trans h2 hw.size, h1 w w' (fun k hk1 hk2 => hw.block k (by omega) (by omega)) h3⟩⟩
theorem Stand.add (h : Stand w0 Fs w) (lo hi : Nat) (F : World → Prop) (L : Loc lo hi F) (hh : hi ≤ w.heap.size) (hF : F w) : Stand w0 ((lo, hi, F) :: Fs) w := ⟨h.1, fun f hf => by
  rcases List.mem_cons.1 hf with rfl | hf
  · exact ⟨L, hh, hF⟩
  · exact h.2 f hf⟩
theorem Stand.get (h : Stand w0 Fs w) (i : Nat) {lo hi : Nat} {F : World → Prop} (hi' : Fs[i]? = some (lo, hi, F)) : F w :=
  (h.2 (lo, hi, F) (List.mem_of_getElem? hi')).2.2
theorem Stand.le (h : Stand w0 Fs w) (i : Nat) {lo hi : Nat} {F : World → Prop} (hi' : Fs[i]? = some (lo, hi, F)) : hi ≤ w.heap.size :=
  (h.2 (lo, hi, F) (List.mem_of_getElem? hi')).2.1
/-- Some of the facts alone, chosen by their places. -/
theorem Stand.only (h : Stand w0 Fs w) (ks : List Nat) : Stand w0 (ks.filterMap (Fs[·]?)) w := ⟨h.1, fun f hf => by
  obtain ⟨k, _, hk⟩ := List.mem_filterMap.1 hf
  exact h.2 f (List.mem_of_getElem? hk)⟩
/-- The newest block, known whole. -/
theorem Stand.box (h : Stand w0 Fs w) (t : TypeId) (cs : Array Value) : Stand w0 ((w.heap.size, w.heap.size + 1, fun W => Blk W w.heap.size t cs) :: Fs) (w.alloc (.cells cs t)) :=
  (h.alloc _).add _ _ _ (loc_blk _ _ _) (by simp) (Blk.new w t cs)
/-- The list of facts under one name, with what is wanted of it. -/
theorem Stand.pack (h : Stand w0 Fs w) (P : World → Prop) (hP : ∀ W, Stand w0 Fs W → P W) : ∃ FS, Stand w0 FS w ∧ (∀ W, Stand w0 FS W → P W) ∧ (∀ W, Stand w0 FS W → Stand w0 Fs W) := ⟨Fs, h, hP, fun _ h => h⟩
/-- Two blocks' cells beside the facts, as a region that draws its order wants them. -/
theorem Stand.show2 {g g' : Nat} {t t' : TypeId} {cs cs' : Array Value} (hP : ∀ W, Stand w0 Fs W → Blk W g t cs ∧ Blk W g' t' cs') (h : Stand w0 Fs w) :
    (∀ i, w.cell? ⟨g, i, none⟩ = cs[i]?) ∧ (∀ i, w.cell? ⟨g', i, none⟩ = cs'[i]?) ∧ Stand w0 Fs w := ⟨(hP w h).1.cell, (hP w h).2.cell, h⟩
theorem Stand.of2 {A B : Prop} (h : A ∧ B ∧ Stand w0 Fs w) : Stand w0 Fs w := h.2.2
theorem Stand.show1 {g : Nat} {t : TypeId} {cs : Array Value} (hP : ∀ W, Stand w0 Fs W → Blk W g t cs) (h : Stand w0 Fs w) :
    (∀ i, w.cell? ⟨g, i, none⟩ = cs[i]?) ∧ Stand w0 Fs w := ⟨(hP w h).cell, h⟩
theorem Stand.of1 {A : Prop} (h : A ∧ Stand w0 Fs w) : Stand w0 Fs w := h.2
end

theorem own_keep {w w' : World} {base hi : Nat} {e : TypeId} {size : Nat} {v : Value} {n : Nat} {xs : List Value} (h : w.ownsRow base e size v n xs) (hh : ∀ g, v.ownBlock = some g → g < hi)
    (hk : ∀ b, base ≤ b → b < hi → w'.heap[b]? = w.heap[b]?) : w'.ownsRow base e size v n xs := by
  refine ⟨h.1, ?_⟩
  rcases h.2 with h2 | ⟨g, cap, cur, h1, hg, hc, r⟩
  · exact .inl h2
  · refine .inr ⟨g, cap, cur, h1, hg, ?_, r⟩
    rw [hk g hg (hh g (by rw [h1]; rfl))]
    exact hc

end Go.Proofs.YtmeholhmadeehaaGreatDoor
