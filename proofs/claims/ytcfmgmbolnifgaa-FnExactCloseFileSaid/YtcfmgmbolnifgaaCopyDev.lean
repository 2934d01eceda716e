/- copyDevices of the program walked. -/
import Derived.Test.YtcfmgmbolnifgaaFx
import Derived.Test.YtcfmgmbolnifgaaRegion
namespace Go.Proofs.Ytcfmgmbolnifgaa
open Go.RowKit

theorem wpAnyH_mono {P : Program} {md : Region.Mode} {ops : Array Oper} {Q : Exit → Go.Act → World → Prop} {S S' : World → Prop} (hS : ∀ w, S' w → S w) :
    ∀ (fuel : Nat) (listed : Array Bool) (a : Go.Act) (w : World), wpAnyH P md ops Q S' fuel listed a w → wpAnyH P md ops Q S fuel listed a w
  | 0, _, _, _, h => h
  | fuel + 1, _, _, _, h => ⟨h.1, fun i hi => wpOp_mono (fun a' w' h' => ⟨hS _ h'.1, wpAnyH_mono hS fuel _ a' w' h'.2⟩) (h.2 i hi)⟩

abbrev outCs (d : Dev) (A : Option Addr) (c : Nat) (V : Option Addr) (n cv : Nat) (K : Option Addr) (ck : Nat) : Array Value :=
  #[.int .i64 d.use, .int .i64 d.scr.row, .int .i64 d.scr.col, .slice A d.scr.rows.length c, .slice V n cv, .slice K d.keys.length ck]

/-- What stands after k files are copied: the new devices at p, their files from B on. -/
def CopyA (w : World) (Fs : Facts) (p B : Nat) (d : Dev) (A : Option Addr) (c : Nat) (K : Option Addr) (ck : Nat) (k : Nat) (wc : World) : Prop :=
  ∃ (xs : List Fx) (V : Option Addr) (cv : Nat), xs.map Fx.f = d.files.take k ∧ xs.length = k ∧ Blk wc p 61 (outCs d A c V k cv K ck) ∧ OwnFx wc B wc.heap.size (.slice V k cv) xs ∧ Stand w Fs wc ∧ B ≤ wc.heap.size

/-- The facts that the copying does not touch. -/
def Clear (w : World) (Fs : Facts) (p B : Nat) : Prop := w.heap.size ≤ p ∧ p < B ∧ ∀ f ∈ Fs, f.2.1 ≤ B ∧ (f.2.1 ≤ p ∨ p < f.1)

/-- Up to the append: the temporary file, its lines, the element. -/
theorem CopyA.ready {wr w1 : World} {B : Nat} {v v1 : Value} {xs : List Fx} {fc : Array Value} {X : Fil} (h : OwnFx wr B wr.heap.size v xs) (_ : B ≤ wr.heap.size)
    (hb1 : Below (wr.alloc (.cells fc 91)).heap.size (wr.alloc (.cells fc 91)) w1) (ho1 : w1.ownsRow (wr.alloc (.cells fc 91)).heap.size 9 1 v1 X.lines.length (X.lines.map Value.string)) (q : Nat) (u : Value) (cs : Array Value) :
    OwnFx (((w1.setCell ⟨wr.heap.size, 1, none⟩ u).drewN q).alloc (.cells cs 91)) B wr.heap.size v xs ∧
      (((w1.setCell ⟨wr.heap.size, 1, none⟩ u).drewN q).alloc (.cells cs 91)).ownsRow wr.heap.size 9 1 v1 X.lines.length (X.lines.map Value.string) := by
  have e0 : (wr.alloc (.cells fc 91)).heap.size = wr.heap.size + 1 := by simp
  rw [e0] at hb1 ho1
  have hs1 : wr.heap.size + 1 ≤ w1.heap.size := by have := hb1.size; rw [e0] at this; exact this
  have hx : Below w1.heap.size (w1.setCell ⟨wr.heap.size, 1, none⟩ u) (((w1.setCell ⟨wr.heap.size, 1, none⟩ u).drewN q).alloc (.cells cs 91)) := by
    have e : (w1.setCell ⟨wr.heap.size, 1, none⟩ u).heap.size = w1.heap.size := by simp [World.setCell]
    have hq : ((w1.setCell ⟨wr.heap.size, 1, none⟩ u).drewN q).heap.size = w1.heap.size := e
    have h1 : Below w1.heap.size (w1.setCell ⟨wr.heap.size, 1, none⟩ u) ((w1.setCell ⟨wr.heap.size, 1, none⟩ u).drewN q) := by
      have := below_drewN' (w1.setCell ⟨wr.heap.size, 1, none⟩ u) q
      rwa [e] at this
    exact h1.alloc (by omega) _
  constructor
  · refine loc_ownFx B wr.heap.size v xs wr _ (fun b h1 h2 => ?_) h
    rw [hx.block b (by omega), Below.heap_setCell w1 ⟨wr.heap.size, 1, none⟩ u b (by simp; omega), hb1.block b (by omega)]
    exact Below.heap_alloc wr _ b (by omega)
  · refine own_mono (base := wr.heap.size + 1) ?_ (by omega)
    have h2 := ownsRow_setCell_below ho1 (a := ⟨wr.heap.size, 1, none⟩) (by simp) u
    refine own_below h2 ?_
    have e : (w1.setCell ⟨wr.heap.size, 1, none⟩ u).heap.size = w1.heap.size := by simp [World.setCell]
    rw [e]; exact hx

/-- One file is copied. -/
theorem CopyA.next {w wr w1 w4 : World} {Fs : Facts} {p B : Nat} {d : Dev} {A : Option Addr} {c : Nat} {K : Option Addr} {ck k : Nat} {xs : List Fx} {V : Option Addr} {cv : Nat} {fc cs : Array Value} {q g cap : Nat} {y : Fx}
    (hc : Clear w Fs p B) (hk : k < d.files.length) (hxs : xs.map Fx.f = d.files.take k) (hxl : xs.length = k) (hblk : Blk wr p 61 (outCs d A c V k cv K ck)) (h : OwnFx wr B wr.heap.size (.slice V k cv) xs) (hS : Stand w Fs wr) (hB : B ≤ wr.heap.size)
    (hb1 : Below (wr.alloc (.cells fc 91)).heap.size (wr.alloc (.cells fc 91)) w1) (hyf : y.f = d.files.getD k filD) (ho1 : w1.ownsRow (wr.alloc (.cells fc 91)).heap.size 9 1 y.sl y.f.lines.length (y.f.lines.map Value.string))
    (hr : w4.ownsRow B 91 4 (.slice (some ⟨g, 0, none⟩) (k + 1) cap) (k + 1) (flat xs ++ y.cells))
    (hg : (((w1.setCell ⟨wr.heap.size, 1, none⟩ y.sl).drewN q).alloc (.cells cs 91)).grownBy w4 (Value.slice V k cv).ownBlock) (hat : (Value.slice V k cv).ownBlock = some g ∨ g = (((w1.setCell ⟨wr.heap.size, 1, none⟩ y.sl).drewN q).alloc (.cells cs 91)).heap.size) :
    CopyA w Fs p B d A c K ck (k + 1) (w4.setCell ⟨p, 4, none⟩ (.slice (some ⟨g, 0, none⟩) (k + 1) cap)) := by
  obtain ⟨hp0, hpB, hd⟩ := hc
  obtain ⟨r1, r2⟩ := CopyA.ready (X := y.f) h hB hb1 ho1 q y.sl cs
  have e0 : (wr.alloc (.cells fc 91)).heap.size = wr.heap.size + 1 := by simp
  rw [e0] at hb1
  have hs1 : wr.heap.size + 1 ≤ w1.heap.size := by have := hb1.size; rw [e0] at this; exact this
  have hW3 : (((w1.setCell ⟨wr.heap.size, 1, none⟩ y.sl).drewN q).alloc (.cells cs 91)).heap.size = w1.heap.size + 1 := by
    have e : ((w1.setCell ⟨wr.heap.size, 1, none⟩ y.sl).drewN q).heap.size = w1.heap.size := by show (w1.setCell ⟨wr.heap.size, 1, none⟩ y.sl).heap.size = _; simp [World.setCell]
    rw [World.heap_size_alloc', e]
  have hs4 := hg.size
  rw [hW3] at hs4
  have hkeep : ∀ b, b < wr.heap.size → (Value.slice V k cv).ownBlock ≠ some b → w4.heap[b]? = wr.heap[b]? := fun b hb hne => by
    rw [hg.block b (by omega) (fun e => hne e.symm)]
    rw [Below.heap_alloc _ _ b (by show b < (w1.setCell ⟨wr.heap.size, 1, none⟩ y.sl).heap.size; simp [World.setCell]; omega)]
    show (w1.setCell ⟨wr.heap.size, 1, none⟩ y.sl).heap[b]? = _
    rw [Below.heap_setCell w1 ⟨wr.heap.size, 1, none⟩ y.sl b (by simp; omega), hb1.block b (by omega)]
    exact Below.heap_alloc wr _ b hb
  have hVB : ∀ b, (Value.slice V k cv).ownBlock = some b → B ≤ b := fun b hb => (h.row.lt b hb).1
  have hblk4 : Blk w4 p 61 (outCs d A c V k cv K ck) := (hkeep p (by omega) (fun e => by have := hVB p e; omega)).trans hblk
  subst hxl
  have hadd := OwnFx.add (y := y) r1 (by rw [hW3]; omega) hB (by exact r2) hg hat hr
  have hsz5 : (w4.setCell ⟨p, 4, none⟩ (.slice (some ⟨g, 0, none⟩) (xs.length + 1) cap)).heap.size = w4.heap.size := by simp [World.setCell]
  refine ⟨xs ++ [y], some ⟨g, 0, none⟩, cap, ?_, by simp, ?_, ?_, ?_, ?_⟩
  · rw [List.map_append, hxs, List.take_succ_eq_append_getElem hk]
    congr 1
    simp [hyf, List.getD_eq_getElem?_getD, List.getElem?_eq_getElem hk]
  · exact hblk4.set_ 4 _
  · rw [hsz5]
    refine loc_ownFx B w4.heap.size _ _ w4 _ (fun b h1 _ => Below.heap_setCell w4 ⟨p, 4, none⟩ _ b (by simp; omega)) ?_
    exact hadd
  · refine hS.framed p B ?_ ?_ ?_ ?_ ?_ (by omega) hp0 hd
    · show w4.os = wr.os
      rw [hg.os]; show (w1.setCell ⟨wr.heap.size, 1, none⟩ y.sl).os = _; rw [show (w1.setCell ⟨wr.heap.size, 1, none⟩ y.sl).os = w1.os from rfl, hb1.os]; rfl
    · show w4.tape = wr.tape
      rw [hg.tape]; show w1.tape = _; rw [hb1.tape]; rfl
    · show w4.output = wr.output
      rw [hg.output]; show w1.output = _; rw [hb1.output]; rfl
    · omega
    · intro b hb hne
      rw [Below.heap_setCell w4 ⟨p, 4, none⟩ _ b (by simpa using hne)]
      exact hkeep b (by omega) (fun e => by have := hVB b e; omega)
  · omega

end Go.Proofs.Ytcfmgmbolnifgaa
