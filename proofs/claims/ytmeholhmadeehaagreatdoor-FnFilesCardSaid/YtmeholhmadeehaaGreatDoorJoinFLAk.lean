/- copyDevices of the program walked. -/
import Derived.Test.YtmeholhmadeehaaGreatDoorJoinFLAj
import Derived.Deep.DeepCutAuto
import Derived.Test.YtmeholhmadeehaaGreatDoorJoinFLAi
import Derived.IntWalk
namespace Go.Proofs.YtmeholhmadeehaaGreatDoor
open Go.RowKit

theorem wpAnyH_mono {P : Program} {md : Region.Mode} {ops : Array Oper} {Q : Exit → Go.Act → World → Prop} {S S' : World → Prop} (hS : ∀ w, S' w → S w) :
    ∀ (fuel : Nat) (listed : Array Bool) (a : Go.Act) (w : World), wpAnyH P md ops Q S' fuel listed a w → wpAnyH P md ops Q S fuel listed a w
  | 0, _, _, _, h => h
  | fuel + 1, _, _, _, h => ⟨h.1, fun i hi => wpOp_mono (fun a' w' h' => ⟨hS _ h'.1, wpAnyH_mono hS fuel _ a' w' h'.2⟩) (h.2 i hi)⟩

abbrev outCs (d : Dev) (A : Option Addr) (c : Nat) (V : Option Addr) (n cv : Nat) (K : Option Addr) (ck : Nat) : Array Value :=
  #[.int .i64 d.use, .int .i64 d.scr.row, .int .i64 d.scr.col, .slice A d.scr.rows.length c, .slice V n cv, .slice K d.keys.length ck]

/-- What stands after k files are copied: the new devices at p, their files from B on. -/
def CopyA (w : World) (Fs : Facts) (p B : Nat) (d : Dev) (A : Option Addr) (c : Nat) (K : Option Addr) (ck : Nat) (k : Nat) (wc : World) : Prop :=
  ∃ (xs : List Fx) (V : Option Addr) (cv : Nat), xs.map Fx.f = d.files.take k ∧ xs.length = k ∧ Blk wc p 32 (outCs d A c V k cv K ck) ∧ OwnFx wc B wc.heap.size (.slice V k cv) xs ∧ Stand w Fs wc ∧ B ≤ wc.heap.size

/-- The facts that the copying does not touch. -/
def Clear (w : World) (Fs : Facts) (p B : Nat) : Prop := w.heap.size ≤ p ∧ p < B ∧ ∀ f ∈ Fs, f.2.1 ≤ B ∧ (f.2.1 ≤ p ∨ p < f.1)

/-- Up to the append: the temporary file, its lines, the element. -/
theorem CopyA.ready {wr w1 : World} {B : Nat} {v v1 : Value} {xs : List Fx} {fc : Array Value} {X : Fil} (h : OwnFx wr B wr.heap.size v xs) (_ : B ≤ wr.heap.size)
    (hb1 : Below (wr.alloc (.cells fc 55)).heap.size (wr.alloc (.cells fc 55)) w1) (ho1 : w1.ownsRow (wr.alloc (.cells fc 55)).heap.size 9 1 v1 X.lines.length (X.lines.map Value.string)) (q : Nat) (u : Value) (cs : Array Value) :
    OwnFx (((w1.setCell ⟨wr.heap.size, 1, none⟩ u).drewN q).alloc (.cells cs 55)) B wr.heap.size v xs ∧
      (((w1.setCell ⟨wr.heap.size, 1, none⟩ u).drewN q).alloc (.cells cs 55)).ownsRow wr.heap.size 9 1 v1 X.lines.length (X.lines.map Value.string) := by
  have e0 : (wr.alloc (.cells fc 55)).heap.size = wr.heap.size + 1 := by simp
  rw [e0] at hb1 ho1
  have hs1 : wr.heap.size + 1 ≤ w1.heap.size := by have := hb1.size; rw [e0] at this; exact this
  have hx : Below w1.heap.size (w1.setCell ⟨wr.heap.size, 1, none⟩ u) (((w1.setCell ⟨wr.heap.size, 1, none⟩ u).drewN q).alloc (.cells cs 55)) := by
    have e : (w1.setCell ⟨wr.heap.size, 1, none⟩ u).heap.size = w1.heap.size := by simp [World.setCell]
    have hq : ((w1.setCell ⟨wr.heap.size, 1, none⟩ u).drewN q).heap.size = w1.heap.size := e
    have h1 : Below w1.heap.size (w1.setCell ⟨wr.heap.size, 1, none⟩ u) ((w1.setCell ⟨wr.heap.size, 1, none⟩ u).drewN q) := by
      have := below_drewN' (w1.setCell ⟨wr.heap.size, 1, none⟩ u) q
      rwa [e] at this
    exact h1.alloc (by omega) _
  constructor
  · refine loc_ownFx B wr.heap.size v xs wr _ (fun b h1 h2 => ?_) h
    rw [hx.block b (by omega), Below.heap_setCell w1 ⟨wr.heap.size, 1, none⟩ u b (by simp; omega), hb1.block b (by omega)]
    exact Below.heap_alloc wr _ b (by omega)
  · refine own_mono (base := wr.heap.size + 1) ?_ (by omega)
    have h2 := ownsRow_setCell_below ho1 (a := ⟨wr.heap.size, 1, none⟩) (by simp) u
    refine own_below h2 ?_
    have e : (w1.setCell ⟨wr.heap.size, 1, none⟩ u).heap.size = w1.heap.size := by simp [World.setCell]
    rw [e]; exact hx

/-- One file is copied. -/
theorem CopyA.next {w wr w1 w4 : World} {Fs : Facts} {p B : Nat} {d : Dev} {A : Option Addr} {c : Nat} {K : Option Addr} {ck k : Nat} {xs : List Fx} {V : Option Addr} {cv : Nat} {fc cs : Array Value} {q g cap : Nat} {y : Fx}
    (hc : Clear w Fs p B) (hk : k < d.files.length) (hxs : xs.map Fx.f = d.files.take k) (hxl : xs.length = k) (hblk : Blk wr p 32 (outCs d A c V k cv K ck)) (h : OwnFx wr B wr.heap.size (.slice V k cv) xs) (hS : Stand w Fs wr) (hB : B ≤ wr.heap.size)
    (hb1 : Below (wr.alloc (.cells fc 55)).heap.size (wr.alloc (.cells fc 55)) w1) (hyf : y.f = d.files.getD k filD) (ho1 : w1.ownsRow (wr.alloc (.cells fc 55)).heap.size 9 1 y.sl y.f.lines.length (y.f.lines.map Value.string))
    (hr : w4.ownsRow B 55 4 (.slice (some ⟨g, 0, none⟩) (k + 1) cap) (k + 1) (flat xs ++ y.cells))
    (hg : (((w1.setCell ⟨wr.heap.size, 1, none⟩ y.sl).drewN q).alloc (.cells cs 55)).grownBy w4 (Value.slice V k cv).ownBlock) (hat : (Value.slice V k cv).ownBlock = some g ∨ g = (((w1.setCell ⟨wr.heap.size, 1, none⟩ y.sl).drewN q).alloc (.cells cs 55)).heap.size) :
    CopyA w Fs p B d A c K ck (k + 1) (w4.setCell ⟨p, 4, none⟩ (.slice (some ⟨g, 0, none⟩) (k + 1) cap)) := by
  obtain ⟨hp0, hpB, hd⟩ := hc
  obtain ⟨r1, r2⟩ := CopyA.ready (X := y.f) h hB hb1 ho1 q y.sl cs
  have e0 : (wr.alloc (.cells fc 55)).heap.size = wr.heap.size + 1 := by simp
  rw [e0] at hb1
  have hs1 : wr.heap.size + 1 ≤ w1.heap.size := by have := hb1.size; rw [e0] at this; exact this
  have hW3 : (((w1.setCell ⟨wr.heap.size, 1, none⟩ y.sl).drewN q).alloc (.cells cs 55)).heap.size = w1.heap.size + 1 := by
    have e : ((w1.setCell ⟨wr.heap.size, 1, none⟩ y.sl).drewN q).heap.size = w1.heap.size := by show (w1.setCell ⟨wr.heap.size, 1, none⟩ y.sl).heap.size = _; simp [World.setCell]
    rw [World.heap_size_alloc', e]
  have hs4 := hg.size
  rw [hW3] at hs4
  have hkeep : ∀ b, b < wr.heap.size → (Value.slice V k cv).ownBlock ≠ some b → w4.heap[b]? = wr.heap[b]? := fun b hb hne => by
    rw [hg.block b (by omega) (fun e => hne e.symm)]
    rw [Below.heap_alloc _ _ b (by show b < (w1.setCell ⟨wr.heap.size, 1, none⟩ y.sl).heap.size; simp [World.setCell]; omega)]
    show (w1.setCell ⟨wr.heap.size, 1, none⟩ y.sl).heap[b]? = _
    rw [Below.heap_setCell w1 ⟨wr.heap.size, 1, none⟩ y.sl b (by simp; omega), hb1.block b (by omega)]
    exact Below.heap_alloc wr _ b hb
  have hVB : ∀ b, (Value.slice V k cv).ownBlock = some b → B ≤ b := fun b hb => (h.row.lt b hb).1
  have hblk4 : Blk w4 p 32 (outCs d A c V k cv K ck) := (hkeep p (by omega) (fun e => by have := hVB p e; omega)).trans hblk
  subst hxl
  have hadd := OwnFx.add (y := y) r1 (by rw [hW3]; omega) hB (by exact r2) hg hat hr
  have hsz5 : (w4.setCell ⟨p, 4, none⟩ (.slice (some ⟨g, 0, none⟩) (xs.length + 1) cap)).heap.size = w4.heap.size := by simp [World.setCell]
  refine ⟨xs ++ [y], some ⟨g, 0, none⟩, cap, ?_, by simp, ?_, ?_, ?_, ?_⟩
  · rw [List.map_append, hxs, List.take_succ_eq_append_getElem hk]
    congr 1
    simp [hyf, List.getD_eq_getElem?_getD, List.getElem?_eq_getElem hk]
  · exact hblk4.set_ 4 _
  · rw [hsz5]
    refine loc_ownFx B w4.heap.size _ _ w4 _ (fun b h1 _ => Below.heap_setCell w4 ⟨p, 4, none⟩ _ b (by simp; omega)) ?_
    exact hadd
  · refine hS.framed p B ?_ ?_ ?_ ?_ ?_ (by omega) hp0 hd
    · show w4.os = wr.os
      rw [hg.os]; show (w1.setCell ⟨wr.heap.size, 1, none⟩ y.sl).os = _; rw [show (w1.setCell ⟨wr.heap.size, 1, none⟩ y.sl).os = w1.os from rfl, hb1.os]; rfl
    · show w4.tape = wr.tape
      rw [hg.tape]; show w1.tape = _; rw [hb1.tape]; rfl
    · show w4.output = wr.output
      rw [hg.output]; show w1.output = _; rw [hb1.output]; rfl
    · omega
    · intro b hb hne
      rw [Below.heap_setCell w4 ⟨p, 4, none⟩ _ b (by simpa using hne)]
      exact hkeep b (by omega) (fun e => by have := hVB b e; omega)
  · omega

end Go.Proofs.YtmeholhmadeehaaGreatDoor

/- The reference's l31Own walked (printed by a program first, then turned by hand). -/
namespace Go.Proofs.YtmeholhmadeehaaGreatDoor
open Go.RowKit

theorem Stand.set {w0 w : World} {Fs : Facts} (h : Stand w0 Fs w) (a : Addr) (u : Value) (hd : ∀ f ∈ Fs, f.2.1 ≤ a.block ∨ a.block < f.1) (hp : w0.heap.size ≤ a.block) : Stand w0 Fs (w.setCell a u) :=
  ⟨h.1.setCell hp u, fun f hf => by
    obtain ⟨h1, h2, h3⟩ := h.2 f hf
    have := hd f hf
    exact ⟨h1, by simpa [World.setCell] using h2, h1 w _ (fun k hk1 hk2 => Below.heap_setCell w a u k (by omega)) h3⟩⟩
theorem Stand.set6 {w0 w : World} {Fs : Facts} (h : Stand w0 Fs w) (p : Nat) (u0 u1 u2 u3 u4 u5 : Value) (hd : ∀ f ∈ Fs, f.2.1 ≤ p ∨ p < f.1) (hp : w0.heap.size ≤ p) :
    Stand w0 Fs ((((((w.setCell ⟨p, 0, none⟩ u0).setCell ⟨p, 1, none⟩ u1).setCell ⟨p, 2, none⟩ u2).setCell ⟨p, 3, none⟩ u3).setCell ⟨p, 4, none⟩ u4).setCell ⟨p, 5, none⟩ u5) :=
  ((((((h.set ⟨p, 0, none⟩ u0 hd hp).set ⟨p, 1, none⟩ u1 hd hp).set ⟨p, 2, none⟩ u2 hd hp).set ⟨p, 3, none⟩ u3 hd hp).set ⟨p, 4, none⟩ u4 hd hp).set ⟨p, 5, none⟩ u5 hd hp)

theorem Loc.set6 {lo hi : Nat} {F : World → Prop} (L : Loc lo hi F) {w : World} (h : F w) (p : Nat) (u0 u1 u2 u3 u4 u5 : Value) (hp : hi ≤ p ∨ p < lo) :
    F ((((((w.setCell ⟨p, 0, none⟩ u0).setCell ⟨p, 1, none⟩ u1).setCell ⟨p, 2, none⟩ u2).setCell ⟨p, 3, none⟩ u3).setCell ⟨p, 4, none⟩ u4).setCell ⟨p, 5, none⟩ u5) :=
  L w _ (fun k h1 h2 => by
    have hk : k ≠ p := by omega
    rw [Below.heap_setCell _ ⟨p, 5, none⟩ u5 k hk, Below.heap_setCell _ ⟨p, 4, none⟩ u4 k hk, Below.heap_setCell _ ⟨p, 3, none⟩ u3 k hk, Below.heap_setCell _ ⟨p, 2, none⟩ u2 k hk, Below.heap_setCell _ ⟨p, 1, none⟩ u1 k hk, Below.heap_setCell _ ⟨p, 0, none⟩ u0 k hk]) h
theorem set6_size (w : World) (p : Nat) (u0 u1 u2 u3 u4 u5 : Value) :
    ((((((w.setCell ⟨p, 0, none⟩ u0).setCell ⟨p, 1, none⟩ u1).setCell ⟨p, 2, none⟩ u2).setCell ⟨p, 3, none⟩ u3).setCell ⟨p, 4, none⟩ u4).setCell ⟨p, 5, none⟩ u5).heap.size = w.heap.size := by simp [World.setCell]

theorem l31Show_none (s : Scr) (v : Value) (lo hi : Nat) (w : World) (hx : ScrR w lo hi v s) (hhi : hi ≤ w.heap.size) (hf : Fine s) :
    Calls Tryz.prog 27 #[v, .string ⟨#[]⟩] w fun e w' => ∃ v', e = .returned v' ∧ ScrR w' w.heap.size w'.heap.size v' s ∧ Below w.heap.size w w' :=
  (l31Show_any s ⟨#[]⟩ v lo hi w hx hhi hf (by decide)).mono fun _ _ h => h

/-- A row of texts of the call's own, in blocks from lo up to, not including, hi. -/
def OwnK (w : World) (lo hi : Nat) (K : Option Addr) (ck : Nat) (ks : List ByteArray) : Prop :=
  w.ownsRow lo 9 1 (.slice K ks.length ck) ks.length (ks.map Value.string) ∧ ∀ g, (Value.slice K ks.length ck).ownBlock = some g → g < hi
theorem OwnK.of {w : World} {lo hi : Nat} {K : Option Addr} {ck : Nat} {ks : List ByteArray} (h : w.ownsRow lo 9 1 (.slice K ks.length ck) ks.length (ks.map Value.string)) (hh : w.heap.size ≤ hi) : OwnK w lo hi K ck ks :=
  ⟨h, fun g hg => Nat.lt_of_lt_of_le (h.lt g hg).2 hh⟩
theorem loc_ownK (lo hi : Nat) (K : Option Addr) (ck : Nat) (ks : List ByteArray) : Loc lo hi (fun w => OwnK w lo hi K ck ks) := fun _ _ hk h => ⟨own_keep h.1 h.2 hk, h.2⟩
theorem OwnK.reads {w : World} {lo hi : Nat} {K : Option Addr} {ck : Nat} {ks : List ByteArray} (h : OwnK w lo hi K ck ks) : StrR w lo hi K ks.length ks := by
  refine ⟨rfl, fun hn => ?_⟩
  obtain ⟨b, off, e, h1, h2, h3⟩ := (StrR.of_own h.1).2 hn
  obtain ⟨g, eg, _⟩ := own_head h.1 hn
  rw [eg] at e
  injection e with e
  injection e with e1 e2
  subst e1 e2
  exact ⟨g, 0, eg, h1, h.2 g (by rw [eg]; rfl), h3⟩
theorem OwnK.more {w : World} {lo hi lo' hi' : Nat} {K : Option Addr} {ck : Nat} {ks : List ByteArray} (h : OwnK w lo hi K ck ks) (h1 : lo' ≤ lo) (h2 : hi ≤ hi') : OwnK w lo' hi' K ck ks := by
  refine ⟨⟨h.1.1, ?_⟩, fun g hg => Nat.lt_of_lt_of_le (h.2 g hg) h2⟩
  rcases h.1.2 with q | ⟨g, cap, cur, e, hg, r⟩
  · exact .inl q
  · exact .inr ⟨g, cap, cur, e, Nat.le_trans h1 hg, r⟩

/-- Devices that read as d, their files a row of the call's own behind block B; the screen's rows and the keys ahead of it, apart from each other; the keys of the call's own. -/
def DevF (w : World) (lo hi : Nat) (v : Value) (d : Dev) : Prop :=
  ∃ A c F cf K ck B xs a1 b1 a3 b3, v = .agg (devCs d A c F cf K ck) ∧ (lo ≤ B ∧ B ≤ hi) ∧ (lo ≤ a1 ∧ b1 ≤ B ∧ lo ≤ a3 ∧ b3 ≤ B ∧ b1 ≤ a3) ∧ StrR w a1 b1 A d.scr.rows.length d.scr.rows ∧ OwnK w a3 b3 K ck d.keys ∧ xs.map Fx.f = d.files ∧ OwnFx w B hi (.slice F d.files.length cf) xs
theorem DevF.reads {w : World} {lo hi : Nat} {v : Value} {d : Dev} (h : DevF w lo hi v d) : DevR w lo hi v d := by
  obtain ⟨A, c, F, cf, K, ck, B, xs, a1, b1, a3, b3, hv, ⟨h1, h2⟩, ⟨k1, k2, k3, k4, k5⟩, h3, h4, h5, h6⟩ := h
  have h7 := h6.fils.reads
  rw [h5] at h7
  exact ⟨A, c, F, cf, K, ck, hv, RowR.more h3 (by omega) (by omega), FilesR.more h7 h1 (Nat.le_refl _), RowR.more h4.reads (by omega) (by omega)⟩
theorem loc_devF (lo hi : Nat) (v : Value) (d : Dev) : Loc lo hi (fun w => DevF w lo hi v d) := fun w w' hk ⟨A, c, F, cf, K, ck, B, xs, a1, b1, a3, b3, hv, ⟨h1, h2⟩, ⟨k1, k2, k3, k4, k5⟩, h3, h4, h5, h6⟩ =>
  ⟨A, c, F, cf, K, ck, B, xs, a1, b1, a3, b3, hv, ⟨h1, h2⟩, ⟨k1, k2, k3, k4, k5⟩, h3.keep (fun b q1 q2 => hk b (by omega) (by omega)), loc_ownK a3 b3 K ck d.keys w w' (fun b q1 q2 => hk b (by omega) (by omega)) h4, h5, loc_ownFx B hi _ xs w w' (fun b q1 q2 => hk b (by omega) q2) h6⟩

set_option maxHeartbeats 8000000 in
set_option maxRecDepth 100000 in
theorem l31Own_own (d : Dev) (v : Value) (lo hi : Nat) (w : World) (hx : DevR w lo hi v d) (hhi : hi ≤ w.heap.size) (hf : Fine d.scr) (hs : DevSmall d) :
    Calls Tryz.prog 24 #[v] w fun e w' => ∃ v', e = .returned v' ∧ DevF w' w.heap.size w'.heap.size v' d ∧ Below w.heap.size w w' := by
  obtain ⟨A, c, F, cf, J, cj, rfl, hA, hF, hJ⟩ := hx
  obtain ⟨hs1, hs2, hs3⟩ := hs
  have R0 := (((((Stand.nil w).add lo hi _ (loc_strR0 lo hi A _ d.scr.rows) hhi hA).add lo hi _ (loc_filesR lo hi F _ d.files) hhi hF).add lo hi _ (loc_strR0 lo hi J _ d.keys) hhi hJ).box 32 (devCs d A c F cf J cj)).box 32 #[.int .i64 0, .int .i64 0, .int .i64 0, .slice none 0 0, .slice none 0 0, .slice none 0 0]
  rw [heap_size_alloc1] at R0
  have HS1 := Lib.hid hs1; have HS2 := Lib.hid hs2; have HFI := Lib.hid hf
  have hk := hs3.1; have hfl := hs2.1
  have HD := Lib.hid R0.drew
  clear hA hF hJ R0 hs1 hs2 hs3 hf
  go_enter Tryz.func24, Tryz.ntmps24
  go_upto_region 1 with fail
  go_cut [3] from 6 to 14 (fun o wc => ∃ p B A1 c1 K1 ck1 a1 b1 a3 b3, o = .pointer (some ⟨p, 0, none⟩) ∧ CopyA w [(a3, b3, fun W => OwnK W a3 b3 K1 ck1 d.keys), (a1, b1, fun W => StrR W a1 b1 A1 d.scr.rows.length d.scr.rows),
      (w.heap.size + 1, w.heap.size + 1 + 1, fun W => Blk W (w.heap.size + 1) 32 #[.int .i64 0, .int .i64 0, .int .i64 0, .slice none 0 0, .slice none 0 0, .slice none 0 0]), (w.heap.size, w.heap.size + 1, fun W => Blk W w.heap.size 32 (devCs d A c F cf J cj)), (lo, hi, fun w => FilesR w lo hi F d.files.length d.files)] p B d A1 c1 K1 ck1 0 wc ∧
      Hid (w.heap.size + 1 < a1 ∧ b1 ≤ B ∧ w.heap.size + 1 < a3 ∧ b3 ≤ B ∧ (b1 ≤ p ∨ p < a1) ∧ (b3 ≤ p ∨ p < a3) ∧ p < B ∧ w.heap.size + 1 < p ∧ b1 ≤ a3))
  case first =>
    have eD : ((w.alloc (.cells (devCs d A c F cf J cj) 32)).alloc (.cells #[.int .i64 0, .int .i64 0, .int .i64 0, .slice none 0 0, .slice none 0 0, .slice none 0 0] 32)).drew.heap.size = w.heap.size + 1 + 1 := by show ((w.alloc _).alloc _).heap.size = _; simp
    generalize hDD : ((w.alloc (.cells (devCs d A c F cf J cj) 32)).alloc (.cells #[.int .i64 0, .int .i64 0, .int .i64 0, .slice none 0 0, .slice none 0 0, .slice none 0 0] 32)) = D0 at *
    clear hDD
    have hD2 : w.heap.size + 1 + 1 ≤ D0.heap.size := (show w.heap.size + 1 + 1 ≤ D0.drew.heap.size by omega)
    have HED := Lib.hid eD; clear eD
    refine wp_region_held_drew (S := (fun w' => ∀ i, w'.cell? ⟨w.heap.size, i, none⟩ = (devCs d A c F cf J cj)[i]?)) (by kernel_rfl) (HD.out.get 1 rfl).cell (fun hHeld => ?_)
    ((refine held_take 0 6 ?_ rfl (by kernel_rfl) (by kernel_rfl) (by kernel_rfl) rfl (fun _ _ _ _ h => h) rfl ?_ (by assumption) ?_); rotate_left; (intro w hSw; (try dsimp only at hSw); go_simp; (try (with_reducible rfl))); simp only [Act.put, List.setIfInBounds_toArray, List.set_cons_zero, List.set_cons_succ])
    ((refine held_take 1 7 ?_ rfl (by kernel_rfl) (by kernel_rfl) (by kernel_rfl) rfl (fun _ _ _ _ h => h) rfl ?_ (by assumption) ?_); rotate_left; (intro w hSw; (try dsimp only at hSw); go_simp; (try (with_reducible rfl))); simp only [Act.put, List.setIfInBounds_toArray, List.set_cons_zero, List.set_cons_succ])
    ((refine held_take 2 8 ?_ rfl (by kernel_rfl) (by kernel_rfl) (by kernel_rfl) rfl (fun _ _ _ _ h => h) rfl ?_ (by assumption) ?_); rotate_left; (intro w hSw; (try dsimp only at hSw); go_simp; (try (with_reducible rfl))); simp only [Act.put, List.setIfInBounds_toArray, List.set_cons_zero, List.set_cons_succ])
    ((refine held_take 3 9 ?_ rfl (by kernel_rfl) (by kernel_rfl) (by kernel_rfl) rfl (fun _ _ _ _ h => h) rfl ?_ (by assumption) ?_); rotate_left; (intro w hSw; (try dsimp only at hSw); go_simp; (try (with_reducible rfl))); simp only [Act.put, List.setIfInBounds_toArray, List.set_cons_zero, List.set_cons_succ])
    ((refine held_take 5 11 ?_ rfl (by kernel_rfl) (by kernel_rfl) (by kernel_rfl) rfl (fun _ _ _ _ h => h) rfl ?_ (by assumption) ?_); rotate_left; (intro w hSw; (try dsimp only at hSw); go_simp; (try (with_reducible rfl))); simp only [Act.put, List.setIfInBounds_toArray, List.set_cons_zero, List.set_cons_succ])
    ((refine held_take 6 12 ?_ rfl (by kernel_rfl) (by kernel_rfl) (by kernel_rfl) rfl (fun _ _ _ _ h => h) rfl ?_ (by assumption) ?_); rotate_left; (intro w hSw; (try dsimp only at hSw); go_simp; (try (with_reducible rfl))); simp only [Act.put, List.setIfInBounds_toArray, List.set_cons_zero, List.set_cons_succ])
    refine wpAnyH_ready (rs := [4, 9]) (by kernel_rfl) (by simp) ?_
    refine AllReadyH.cons rfl (fun K hK => ?_) (AllReadyH.cons rfl (fun K hK => ?_) AllReadyH.nil)
    · go_simp
      refine (l31Show_none d.scr _ lo hi _ ⟨A, c, rfl, HD.out.get 4 rfl⟩ (HD.out.le 4 rfl) HFI.out).mono ?_
      rintro x1 w1 ⟨v1, rfl, ⟨A1, c1, rfl, hA1⟩, hb1⟩
      go_simp
      have R1 := HD.out.below hb1
      have s1 : D0.heap.size ≤ w1.heap.size := hb1.size
      refine hK.out _ _ (R1.get 1 rfl).cell (fun hHeld => ?_)
      clear hK K
      (try simp only [Act.put, List.setIfInBounds_toArray, List.set_cons_zero, List.set_cons_succ])
      refine wpAnyH_ready (rs := [7, 9]) (by kernel_rfl) (by simp) ?_
      refine AllReadyH.cons rfl (fun K hK => ?_) (AllReadyH.cons rfl (fun K hK => ?_) AllReadyH.nil)
      · go_simp
        refine (l03Subs_any J d.keys.length cj lo hi d.keys _ (R1.get 2 rfl) (R1.le 2 rfl) hk).mono ?_
        rintro x2 w2 ⟨v2, rfl, ⟨⟨K1, ck1, rfl⟩, ho⟩, hb2⟩
        go_simp
        have R2 := R1.below hb2
        have s2 := hb2.size
        refine hK.out _ _ (R2.get 1 rfl).cell (fun hHeld => ?_)
        clear hK K
        (try simp only [Act.put, List.setIfInBounds_toArray, List.set_cons_zero, List.set_cons_succ])
        ((refine held_take 8 14 ?_ rfl (by kernel_rfl) (by kernel_rfl) (by kernel_rfl) rfl (fun _ _ _ _ h => h) rfl ?_ (by assumption) ?_); rotate_left; (intro w hSw; (try dsimp only at hSw); go_simp; (try (with_reducible rfl))); simp only [Act.put, List.setIfInBounds_toArray, List.set_cons_zero, List.set_cons_succ])
        ((refine wpAnyH_ready (rs := [9]) (by kernel_rfl) (by simp) ?_); (refine AllReadyH.cons rfl (fun K hK => ?_) AllReadyH.nil); go_simp)
        refine hK.out _ _ ((R2.alloc _).get 1 rfl).cell (fun hHeld => ?_)
        clear hK K
        (try simp only [Act.put, List.setIfInBounds_toArray, List.set_cons_zero, List.set_cons_succ])
        ((refine wpAnyH_ready (rs := [10]) (by kernel_rfl) (by simp) ?_); (refine AllReadyH.cons rfl (fun K hK => ?_) AllReadyH.nil); go_simp)
        refine hK.out _ _ ((R2.alloc _).get 1 rfl).cell (fun hHeld => ?_)
        clear hK K
        (try simp only [Act.put, List.setIfInBounds_toArray, List.set_cons_zero, List.set_cons_succ])
        refine wpAnyH_done (by kernel_rfl) ?_ _
        go_wp2_with fail
        go_meet
        refine ⟨w2.heap.size, w2.heap.size + 1, A1, c1, K1, ck1, D0.heap.size, w1.heap.size, w1.heap.size, w2.heap.size, rfl, ⟨[], none, 0, by simp, rfl, ?_, OwnFx.nil_ _ _ _, ?_, ?_⟩, ?_⟩
        · exact Blk.new _ _ _
        · refine Stand.alloc ?_ _
          exact ((R2.only [0, 1, 3]).add _ _ _ (loc_strR0 _ _ _ _ _) s2 (hA1.below hb2 (Nat.le_refl _))).add _ _ _ (loc_ownK _ _ _ _ _) (Nat.le_refl _) (OwnK.of ho (Nat.le_refl _))
        · simp
        · exact ⟨by omega, by omega, by omega, by omega, .inl s2, .inl (Nat.le_refl _), by omega, by omega, by omega⟩
      · go_simp
        have R2 := R1.box 32 #[.int .i64 0, .int .i64 0, .int .i64 0, .slice none 0 0, .slice none 0 0, .slice none 0 0]
        have e2 : (w1.alloc (.cells #[.int .i64 0, .int .i64 0, .int .i64 0, .slice none 0 0, .slice none 0 0, .slice none 0 0] 32)).heap.size = w1.heap.size + 1 := by simp
        refine hK.out _ _ (R2.get 2 rfl).cell (fun hHeld => ?_)
        clear hK K
        (try simp only [Act.put, List.setIfInBounds_toArray, List.set_cons_zero, List.set_cons_succ])
        ((refine wpAnyH_ready (rs := [7]) (by kernel_rfl) (by simp) ?_); (refine AllReadyH.cons rfl (fun K hK => ?_) AllReadyH.nil); go_simp)
        refine (l03Subs_any J d.keys.length cj lo hi d.keys _ (R2.get 3 rfl) (R2.le 3 rfl) hk).mono ?_
        rintro x3 w3 ⟨v3, rfl, ⟨⟨K1, ck1, rfl⟩, ho⟩, hb3⟩
        go_simp
        have R3 := R2.below hb3
        have s3 := hb3.size
        rw [e2] at s3 ho
        have hA3 := (hA1.below ((Below.refl _ _).alloc (Nat.le_refl _) (.cells #[.int .i64 0, .int .i64 0, .int .i64 0, .slice none 0 0, .slice none 0 0, .slice none 0 0] 32)) (Nat.le_refl _)).below hb3 (by rw [e2]; omega)
        clear e2
        refine hK.out _ _ (R3.get 2 rfl).cell (fun hHeld => ?_)
        clear hK K
        (try simp only [Act.put, List.setIfInBounds_toArray, List.set_cons_zero, List.set_cons_succ])
        ((refine held_take 8 14 ?_ rfl (by kernel_rfl) (by kernel_rfl) (by kernel_rfl) rfl (fun _ _ _ _ h => h) rfl ?_ (by assumption) ?_); rotate_left; (intro w hSw; (try dsimp only at hSw); go_simp; (try (with_reducible rfl))); simp only [Act.put, List.setIfInBounds_toArray, List.set_cons_zero, List.set_cons_succ])
        have B3 : Blk _ w1.heap.size 32 _ := R3.get 0 rfl
        have HBF := Lib.hid (show Blk _ w1.heap.size 32 (outCs d A1 c1 none 0 0 K1 ck1) from (((((B3.set_ 0 (.int .i64 d.use)).set_ 1 (.int .i64 d.scr.row)).set_ 2 (.int .i64 d.scr.col)).set_ 3 (.slice A1 d.scr.rows.length c1)).set_ 4 (.slice none 0 0)).set_ 5 (.slice K1 d.keys.length ck1))
        have hz3 := w3.heap.size
        have R5 := (((R3.only [1, 2, 4]).add (D0.heap.size) (w1.heap.size) _ (loc_strR0 (D0.heap.size) (w1.heap.size) A1 _ d.scr.rows) (by omega) (hA3)).add (w1.heap.size + 1) (w3.heap.size) _ (loc_ownK (w1.heap.size + 1) (w3.heap.size) K1 ck1 d.keys) (Nat.le_refl _) (OwnK.of ho (Nat.le_refl _)))
        have hd5 : ∀ f ∈ [(((w1.heap.size + 1)), ((w3.heap.size)), fun W => OwnK W ((w1.heap.size + 1)) ((w3.heap.size)) K1 ck1 d.keys), (((D0.heap.size)), ((w1.heap.size)), fun W => StrR W ((D0.heap.size)) ((w1.heap.size)) A1 d.scr.rows.length d.scr.rows),       (w.heap.size + 1, w.heap.size + 1 + 1, fun W => Blk W (w.heap.size + 1) 32 #[.int .i64 0, .int .i64 0, .int .i64 0, .slice none 0 0, .slice none 0 0, .slice none 0 0]), (w.heap.size, w.heap.size + 1, fun W => Blk W w.heap.size 32 (devCs d A c F cf J cj)), (lo, hi, fun w => FilesR w lo hi F d.files.length d.files)], f.2.1 ≤ w1.heap.size ∨ w1.heap.size < f.1 := by
          intro f hf
          simp only [List.mem_cons, List.not_mem_nil, or_false] at hf
          rcases hf with rfl | rfl | rfl | rfl | rfl
          all_goals (simp only; omega)
        have HS6 := Lib.hid (Stand.set6 R5 w1.heap.size (.int .i64 d.use) (.int .i64 d.scr.row) (.int .i64 d.scr.col) (.slice A1 d.scr.rows.length c1) (.slice none 0 0) (.slice K1 d.keys.length ck1) hd5 (by omega))
        have f3 := B3.cell; have z3 := B3.frozen
        clear B3 R5 hd5 hz3
        ((refine wpAnyH_ready (rs := [10]) (by kernel_rfl) (by simp) ?_); (refine AllReadyH.cons rfl (fun K hK => ?_) AllReadyH.nil); go_simp)
        refine hK.out _ _ (HS6.out.get 3 rfl).cell (fun hHeld => ?_)
        clear hK K f3 z3
        (try simp only [Act.put, List.setIfInBounds_toArray, List.set_cons_zero, List.set_cons_succ])
        refine wpAnyH_done (by kernel_rfl) ?_ _
        go_wp2_with fail
        go_meet
        refine ⟨w1.heap.size, w3.heap.size, A1, c1, K1, ck1, (D0.heap.size), (w1.heap.size), (w1.heap.size + 1), (w3.heap.size), rfl, ⟨[], none, 0, by simp, rfl, ?_, OwnFx.nil_ _ _ _, ?_, ?_⟩, ?_⟩
        · exact HBF.out
        · exact HS6.out
        · simp [World.setCell]
        · exact ⟨by omega, by omega, by omega, by omega, by omega, by omega, by omega, by omega, by omega⟩
    · go_simp
      have R1 := HD.out.box 32 #[.int .i64 0, .int .i64 0, .int .i64 0, .slice none 0 0, .slice none 0 0, .slice none 0 0]
      have e1 : (D0.drew.alloc (.cells #[.int .i64 0, .int .i64 0, .int .i64 0, .slice none 0 0, .slice none 0 0, .slice none 0 0] 32)).heap.size = D0.heap.size + 1 := by rw [World.heap_size_alloc']; rfl
      have R1' : Stand w _ (D0.alloc (.cells #[.int .i64 0, .int .i64 0, .int .i64 0, .slice none 0 0, .slice none 0 0, .slice none 0 0] 32)).drew := R1
      refine hK.out _ _ (R1.get 2 rfl).cell (fun hHeld => ?_)
      clear hK K
      (try simp only [Act.put, List.setIfInBounds_toArray, List.set_cons_zero, List.set_cons_succ])
      ((refine wpAnyH_ready (rs := [4]) (by kernel_rfl) (by simp) ?_); (refine AllReadyH.cons rfl (fun K hK => ?_) AllReadyH.nil); go_simp)
      refine (l31Show_none d.scr _ lo hi _ ⟨A, c, rfl, R1.get 5 rfl⟩ (R1.le 5 rfl) HFI.out).mono ?_
      rintro x2 w2 ⟨v2, rfl, ⟨A1, c1, rfl, hA1⟩, hb2⟩
      go_simp
      have R2 := R1.below hb2
      have s2 := hb2.size
      have hA2 : StrR w2 (D0.heap.size + 1) w2.heap.size A1 d.scr.rows.length d.scr.rows := by rw [← e1]; exact hA1
      have s2' : D0.heap.size + 1 ≤ w2.heap.size := by rw [← e1]; exact s2
      clear e1 s2
      refine hK.out _ _ (R2.get 2 rfl).cell (fun hHeld => ?_)
      clear hK K
      (try simp only [Act.put, List.setIfInBounds_toArray, List.set_cons_zero, List.set_cons_succ])
      ((refine wpAnyH_ready (rs := [7]) (by kernel_rfl) (by simp) ?_); (refine AllReadyH.cons rfl (fun K hK => ?_) AllReadyH.nil); go_simp)
      refine (l03Subs_any J d.keys.length cj lo hi d.keys _ (R2.get 3 rfl) (R2.le 3 rfl) hk).mono ?_
      rintro x3 w3 ⟨v3, rfl, ⟨⟨K1, ck1, rfl⟩, ho⟩, hb3⟩
      go_simp
      have R3 := R2.below hb3
      have s3 := hb3.size
      have hA3 := hA2.below hb3 (Nat.le_refl _)
      refine hK.out _ _ (R3.get 2 rfl).cell (fun hHeld => ?_)
      clear hK K
      (try simp only [Act.put, List.setIfInBounds_toArray, List.set_cons_zero, List.set_cons_succ])
      ((refine held_take 8 14 ?_ rfl (by kernel_rfl) (by kernel_rfl) (by kernel_rfl) rfl (fun _ _ _ _ h => h) rfl ?_ (by assumption) ?_); rotate_left; (intro w hSw; (try dsimp only at hSw); go_simp; (try (with_reducible rfl))); simp only [Act.put, List.setIfInBounds_toArray, List.set_cons_zero, List.set_cons_succ])
      have B3 : Blk _ D0.heap.size 32 _ := R3.get 0 rfl
      have HBF := Lib.hid (show Blk _ D0.heap.size 32 (outCs d A1 c1 none 0 0 K1 ck1) from (((((B3.set_ 0 (.int .i64 d.use)).set_ 1 (.int .i64 d.scr.row)).set_ 2 (.int .i64 d.scr.col)).set_ 3 (.slice A1 d.scr.rows.length c1)).set_ 4 (.slice none 0 0)).set_ 5 (.slice K1 d.keys.length ck1))
      have hz3 := w3.heap.size
      have R5 := (((R3.only [1, 2, 4]).add (D0.heap.size + 1) (w2.heap.size) _ (loc_strR0 (D0.heap.size + 1) (w2.heap.size) A1 _ d.scr.rows) (by omega) (hA3)).add (w2.heap.size) (w3.heap.size) _ (loc_ownK (w2.heap.size) (w3.heap.size) K1 ck1 d.keys) (Nat.le_refl _) (OwnK.of ho (Nat.le_refl _)))
      have hd5 : ∀ f ∈ [(((w2.heap.size)), ((w3.heap.size)), fun W => OwnK W ((w2.heap.size)) ((w3.heap.size)) K1 ck1 d.keys), (((D0.heap.size + 1)), ((w2.heap.size)), fun W => StrR W ((D0.heap.size + 1)) ((w2.heap.size)) A1 d.scr.rows.length d.scr.rows),       (w.heap.size + 1, w.heap.size + 1 + 1, fun W => Blk W (w.heap.size + 1) 32 #[.int .i64 0, .int .i64 0, .int .i64 0, .slice none 0 0, .slice none 0 0, .slice none 0 0]), (w.heap.size, w.heap.size + 1, fun W => Blk W w.heap.size 32 (devCs d A c F cf J cj)), (lo, hi, fun w => FilesR w lo hi F d.files.length d.files)], f.2.1 ≤ D0.heap.size ∨ D0.heap.size < f.1 := by
        intro f hf
        simp only [List.mem_cons, List.not_mem_nil, or_false] at hf
        rcases hf with rfl | rfl | rfl | rfl | rfl
        all_goals (simp only; omega)
      have HS6 := Lib.hid (Stand.set6 R5 D0.heap.size (.int .i64 d.use) (.int .i64 d.scr.row) (.int .i64 d.scr.col) (.slice A1 d.scr.rows.length c1) (.slice none 0 0) (.slice K1 d.keys.length ck1) hd5 (by omega))
      have f3 := B3.cell; have z3 := B3.frozen
      clear B3 R5 hd5 hz3
      ((refine wpAnyH_ready (rs := [10]) (by kernel_rfl) (by simp) ?_); (refine AllReadyH.cons rfl (fun K hK => ?_) AllReadyH.nil); go_simp)
      refine hK.out _ _ (HS6.out.get 3 rfl).cell (fun hHeld => ?_)
      clear hK K f3 z3
      (try simp only [Act.put, List.setIfInBounds_toArray, List.set_cons_zero, List.set_cons_succ])
      refine wpAnyH_done (by kernel_rfl) ?_ _
      go_wp2_with fail
      go_meet
      refine ⟨D0.heap.size, w3.heap.size, A1, c1, K1, ck1, (D0.heap.size + 1), (w2.heap.size), (w2.heap.size), (w3.heap.size), rfl, ⟨[], none, 0, by simp, rfl, ?_, OwnFx.nil_ _ _ _, ?_, ?_⟩, ?_⟩
      · exact HBF.out
      · exact HS6.out
      · simp [World.setCell]
      · exact ⟨by omega, by omega, by omega, by omega, by omega, by omega, by omega, by omega, by omega⟩
  case rest =>
    obtain ⟨p, B, A1, c1, K1, ck1, a1, b1, a3, b3, rfl, hC, HH⟩ := hcut
    have hcl : Clear w [(a3, b3, fun W => OwnK W a3 b3 K1 ck1 d.keys), (a1, b1, fun W => StrR W a1 b1 A1 d.scr.rows.length d.scr.rows),
      (w.heap.size + 1, w.heap.size + 1 + 1, fun W => Blk W (w.heap.size + 1) 32 #[.int .i64 0, .int .i64 0, .int .i64 0, .slice none 0 0, .slice none 0 0, .slice none 0 0]), (w.heap.size, w.heap.size + 1, fun W => Blk W w.heap.size 32 (devCs d A c F cf J cj)), (lo, hi, fun w => FilesR w lo hi F d.files.length d.files)] p B := by
      obtain ⟨q1, q2, q3, q4, q5, q6, q7, q8, q9⟩ := HH.out
      refine ⟨by omega, by omega, fun f hf => ?_⟩
      simp only [List.mem_cons, List.not_mem_nil, or_false] at hf
      rcases hf with rfl | rfl | rfl | rfl | rfl
      all_goals (simp only; omega)
    generalize hFs : [(a3, b3, fun W => OwnK W a3 b3 K1 ck1 d.keys), (a1, b1, fun W => StrR W a1 b1 A1 d.scr.rows.length d.scr.rows),
      (w.heap.size + 1, w.heap.size + 1 + 1, fun W => Blk W (w.heap.size + 1) 32 #[.int .i64 0, .int .i64 0, .int .i64 0, .slice none 0 0, .slice none 0 0, .slice none 0 0]), (w.heap.size, w.heap.size + 1, fun W => Blk W w.heap.size 32 (devCs d A c F cf J cj)), (lo, hi, fun w => FilesR w lo hi F d.files.length d.files)] = Fs at *
    have HG := Lib.hid (fun W (h : Stand w Fs W) => (show (Blk W w.heap.size 32 (devCs d A c F cf J cj) ∧ FilesR W lo hi F d.files.length d.files) ∧ Blk W (w.heap.size + 1) 32 #[.int .i64 0, .int .i64 0, .int .i64 0, .slice none 0 0, .slice none 0 0, .slice none 0 0] by rw [← hFs] at h; exact ⟨⟨h.get 3 rfl, h.get 4 rfl⟩, h.get 2 rfl⟩))
    have HG2 := Lib.hid (fun W (h : Stand w Fs W) => (show StrR W a1 b1 A1 d.scr.rows.length d.scr.rows ∧ OwnK W a3 b3 K1 ck1 d.keys by rw [← hFs] at h; exact ⟨h.get 1 rfl, h.get 0 rfl⟩))
    have HCL := Lib.hid hcl
    have HC := Lib.hid hC
    clear hFs hcl hC
    go_wp2_with fail
    go_loopw [4] (fun i wr => ∃ k : Nat, k ≤ d.files.length ∧ i = .int .i64 k ∧ CopyA w Fs p B d A1 c1 K1 ck1 k wr) (fun i _ => d.files.length - (intOf i).toNat)
    case atStart => exact ⟨0, Nat.zero_le _, rfl, HC.out⟩
    case round =>
      obtain ⟨k, hkl, rfl, hCk⟩ := hrel
      obtain ⟨xs, V, cv, hxs, hxl, hbp, hfx, hSt, hBw⟩ := hCk
      have f := (HG.out _ hSt).1.1.cell
      by_cases hlt : k < d.files.length
      · obtain ⟨b, off, rfl, hb1, hb2, L1, d1, e0, e1, e2, e3, hL⟩ := (HG.out _ hSt).1.2.at_ hlt
        have HX := Lib.hid (HS2.out.2 _ (getD_mem (d := filD) hlt))
        have HNX := Lib.hid (fun y w1 w4 fc cs q g cap z1 z2 z3 z4 z5 z6 => CopyA.next (w := w) (wr := wr) (w1 := w1) (w4 := w4) (fc := fc) (cs := cs) (q := q) (g := g) (cap := cap) (y := y) HCL.out hlt hxs hxl hbp hfx hSt hBw z1 z2 z3 z4 z5 z6)
        have HRD := Lib.hid (fun w1 fc v1 X q u cs z1 z2 => CopyA.ready (w1 := w1) (fc := fc) (v1 := v1) (X := X) hfx hBw z1 z2 q u cs)
        generalize d.files.getD k filD = X at *
        obtain ⟨i0, hi0, hz0, hz1, hz2⟩ := info_parts infoFile
        have HHI := Lib.hid (show hi ≤ wr.heap.size from Nat.le_trans hhi hSt.1.size)
        have HN := Lib.hid (((Stand.nil wr).add lo hi _ (loc_strR0 lo hi L1 _ X.lines) HHI.out hL).box 55 #[.string X.name, .slice L1 X.lines.length d1, .string X.part, .int .i64 X.at_])
        have HBP := Lib.hid hbp
        have hpw := hbp.lt
        have j0 : (0 : Int) ≤ (k : Int) := by omega
        have j1 : (k : Int) < (d.files.length : Int) := by omega
        have hBw' := hBw
        clear hbp hfx hSt hL hxs hBw
        go_wp2_with fail
        refine (l03Subs_any L1 X.lines.length d1 lo hi X.lines _ (HN.out.get 1 rfl) (HN.out.le 1 rfl) HX.out.2.2.1).mono ?_
        rintro x5 w5 ⟨v5, rfl, ⟨⟨L5, c5, rfl⟩, ho5⟩, hb5⟩
        have HN5 := Lib.hid (HN.out.below hb5)
        have B5 := HN5.out.get 0 rfl
        have f5 := B5.cell
        have z5 := B5.frozen
        have HB5 := Lib.hid (show Blk (w5.setCell ⟨wr.heap.size, 1, none⟩ (.slice L5 X.lines.length c5)) wr.heap.size 55 #[.string X.name, .slice L5 X.lines.length c5, .string X.part, .int .i64 X.at_] from B5.set_ 1 (.slice L5 X.lines.length c5))
        have HP5 := Lib.hid (((HBP.out.below ((Below.refl _ _).alloc (Nat.le_refl _) _) hpw).below hb5 (by simp; omega)).far (p := ⟨wr.heap.size, 1, none⟩) (by simp; omega) (.slice L5 X.lines.length c5))
        have HR5 := Lib.hid (HRD.out w5 _ _ X 0 (.slice L5 X.lines.length c5) #[.string X.name, .slice L5 X.lines.length c5, .string X.part, .int .i64 X.at_] hb5 ho5)
        have HN6 := Lib.hid (fun w4 g cap z4 z5 z6 => HNX.out ⟨X, L5, c5⟩ w5 w4 _ #[.string X.name, .slice L5 X.lines.length c5, .string X.part, .int .i64 X.at_] 0 g cap hb5 rfl ho5 z4 z5 z6)
        have s5 : wr.heap.size + 1 ≤ w5.heap.size := by have := hb5.size; simpa using this
        have hbd := HCL.out.2.1
        have HR8 := Lib.hid (show ((w5.setCell ⟨wr.heap.size, 1, none⟩ (.slice L5 X.lines.length c5)).alloc (.cells #[.string X.name, .slice L5 X.lines.length c5, .string X.part, .int .i64 X.at_] 55)).ownsRow B 55 4 (.slice V k cv) k (flat xs) by have := HR5.out.1.row; rw [hxl] at this; exact this)
        have HTOP := Lib.hid HR5.out.1.top
        have HLOW := Lib.hid (fun g hg => (HR5.out.1.row.lt g hg).1)
        have hZ : (w5.setCell ⟨wr.heap.size, 1, none⟩ (.slice L5 X.lines.length c5)).heap.size = w5.heap.size := by simp [World.setCell]
        have HNW := Lib.hid (show ∀ j u, (Fx.mk X L5 c5).cells[j]? = some u → ((w5.setCell ⟨wr.heap.size, 1, none⟩ (.slice L5 X.lines.length c5)).alloc (.cells #[.string X.name, .slice L5 X.lines.length c5, .string X.part, .int .i64 X.at_] 55)).cell? ((⟨w5.heap.size, 0, none⟩ : Addr).add j) = some u by
          have := World.news_of_block (Blk.new (w5.setCell ⟨wr.heap.size, 1, none⟩ (.slice L5 X.lines.length c5)) 55 #[.string X.name, .slice L5 X.lines.length c5, .string X.part, .int .i64 X.at_])
          rw [hZ] at this; exact this)
        have HON := Lib.hid (show ∀ u ∈ (Fx.mk X L5 c5).cells, u.oneCell' = true by intro u hu; simp only [Fx.cells, Fx.sl, List.mem_cons, List.not_mem_nil, or_false] at hu; rcases hu with rfl | rfl | rfl | rfl <;> rfl)
        have HBS := Lib.hid (show B ≤ ((w5.setCell ⟨wr.heap.size, 1, none⟩ (.slice L5 X.lines.length c5)).alloc (.cells #[.string X.name, .slice L5 X.lines.length c5, .string X.part, .int .i64 X.at_] 55)).heap.size by rw [World.heap_size_alloc', hZ]; omega)
        have hby : (k + 1) * 64 ≤ 140737488355328 := by omega
        have H63 := Lib.hid (show k + 1 ≤ maxLen by unfold maxLen; omega)
        have BPA := HP5.out.alloc (.cells #[.string X.name, .slice L5 X.lines.length c5, .string X.part, .int .i64 X.at_] 55)
        have HBP6 := Lib.hid (fun w6 (hg : ((w5.setCell ⟨wr.heap.size, 1, none⟩ (.slice L5 X.lines.length c5)).alloc (.cells #[.string X.name, .slice L5 X.lines.length c5, .string X.part, .int .i64 X.at_] 55)).grownBy w6 (Value.slice V k cv).ownBlock) => (show Blk w6 p 32 (outCs d A1 c1 V k cv K1 ck1) from (hg.block _ BPA.lt (fun e => by have := HLOW.out _ e.symm; omega)).trans BPA))
        have fp := HP5.out.cell
        have fb := HB5.out.cell
        clear ho5 hb5 B5 HN HN5 e0 e1 e2 e3 HRD HNX HBP hZ BPA HR5 f
        go_wp2_with (at_builtin; refine wpList_append_lies _ (by rfl) (.tmp 32) (.tmp 34) 30 (by rfl) B 55 i0 _ 4 64 Tryz.underlying30 hi0 hz0 hz1 hz2 rfl (by decide) (.slice V k cv) k (flat xs) (by rfl) HR8.out ⟨w5.heap.size, 0, none⟩ 1 1 (Fx.mk X L5 c5).cells (by rfl) rfl HNW.out HON.out (by omega) H63.out hby HBS.out _ rfl ?_; intro g cap w6 hr6 hg6 hat6 hlt6; have f6 := (HBP6.out w6 hg6).cell; have z6 := (HBP6.out w6 hg6).frozen; have HFIN := Lib.hid (HN6.out w6 g cap hr6 hg6 hat6); clear hr6 hg6 hat6 fp fb f5 z5)
        go_roundw
        case rel => exact ⟨k + 1, by omega, by go_num, HFIN.out⟩
        case measure => simp [intOf]; omega
      · obtain rfl : k = d.files.length := by omega
        have fp := hbp.cell
        have f1 := (HG.out _ hSt).2.cell
        have z1 := (HG.out _ hSt).2.frozen
        have HF := Lib.hid hfx; have HST := Lib.hid hSt; have HXS := Lib.hid hxs
        have hszz := hSt.1.size
        clear hbp hfx hSt hxs
        go_wp2_with fail
        obtain ⟨q1, q2, q3, q4, q5, q6, q7, q8, q9⟩ := HH.out
        have hb1 : b1 ≤ wr.heap.size := by omega
        refine bodyPost_ret (v := .agg (devCs d A1 c1 V cv K1 ck1)) (by simp [results, Tryz.results24, go_sem, f1]) rfl ⟨_, rfl, ?_, ?_⟩
        · have hHX := HXS.out
          rw [List.take_length] at hHX
          have g1 := Loc.set6 (loc_strR0 a1 b1 A1 _ d.scr.rows) (HG2.out _ HST.out).1 (w.heap.size + 1) (.int .i64 d.use) (.int .i64 d.scr.row) (.int .i64 d.scr.col) (.slice A1 d.scr.rows.length c1) (.slice V d.files.length cv) (.slice K1 d.keys.length ck1) (.inr (by omega))
          have g2 := Loc.set6 (loc_ownFx B wr.heap.size _ xs) HF.out (w.heap.size + 1) (.int .i64 d.use) (.int .i64 d.scr.row) (.int .i64 d.scr.col) (.slice A1 d.scr.rows.length c1) (.slice V d.files.length cv) (.slice K1 d.keys.length ck1) (.inr (by omega))
          have g3 := Loc.set6 (loc_ownK a3 b3 K1 ck1 d.keys) (HG2.out _ HST.out).2 (w.heap.size + 1) (.int .i64 d.use) (.int .i64 d.scr.row) (.int .i64 d.scr.col) (.slice A1 d.scr.rows.length c1) (.slice V d.files.length cv) (.slice K1 d.keys.length ck1) (.inr (by omega))
          have hsz6 := set6_size wr (w.heap.size + 1) (.int .i64 d.use) (.int .i64 d.scr.row) (.int .i64 d.scr.col) (.slice A1 d.scr.rows.length c1) (.slice V d.files.length cv) (.slice K1 d.keys.length ck1)
          refine ⟨A1, c1, V, cv, K1, ck1, B, xs, a1, b1, a3, b3, rfl, ⟨?_, ?_⟩, ⟨by omega, by omega, by omega, by omega, by omega⟩, g1, g3, hHX, OwnFx.more g2 (Nat.le_of_eq hsz6.symm)⟩
          · omega
          · exact Nat.le_trans (show B ≤ wr.heap.size by omega) (Nat.le_of_eq hsz6.symm)
        · iterate 6 (with_reducible refine Below.setCell ?_ (by simp) _)
          exact HST.out.1

theorem l31Own_any (d : Dev) (v : Value) (lo hi : Nat) (w : World) (hx : DevR w lo hi v d) (hhi : hi ≤ w.heap.size) (hf : Fine d.scr) (hs : DevSmall d) :
    Calls Tryz.prog 24 #[v] w fun e w' => ∃ v', e = .returned v' ∧ DevR w' w.heap.size w'.heap.size v' d ∧ Below w.heap.size w w' :=
  (l31Own_own d v lo hi w hx hhi hf hs).mono fun _ _ ⟨v', h1, h2, h3⟩ => ⟨v', h1, h2.reads, h3⟩

end Go.Proofs.YtmeholhmadeehaaGreatDoor

/- Both DevicesOk walked. -/
namespace Go.Proofs.YtmeholhmadeehaaGreatDoor
open Go.RowKit

/-- The file k is right and comes after the one before. -/
def filOkAt (fs : List Fil) (k : Nat) : Bool := filB (fs.getD k filD) && (decide (k = 0) || Op.bytesLess (fs.getD (k - 1) filD).name.toList (fs.getD k filD).name.toList)
def filsTo (fs : List Fil) (k : Nat) : Bool := (List.range k).all (filOkAt fs)
def devB (d : Dev) : Bool := inB d.use 0 d.files.length && scrB d.scr && decide (d.files.length ≤ 3) && decide (d.keys.length ≤ 20) && keysB d.keys && filsTo d.files d.files.length
theorem filsTo_succ (fs : List Fil) (k : Nat) : filsTo fs (k + 1) = (filsTo fs k && filOkAt fs k) := by
  unfold filsTo
  rw [List.range_succ, List.all_append]
  simp
theorem filsTo_false {fs : List Fil} {k n : Nat} (hk : k < n) (h : filOkAt fs k = false) : filsTo fs n = false := by
  unfold filsTo
  rw [List.all_eq_false]
  exact ⟨k, List.mem_range.2 hk, by rw [h]; simp⟩
theorem devB_false_at {d : Dev} {k : Nat} (hk : k < d.files.length) (h : filOkAt d.files k = false) : devB d = false := by
  unfold devB; rw [filsTo_false hk h, Bool.and_false]

/-- The name of file k. -/
theorem filesR_name {w : World} {lo hi b off n : Nat} {fs : List Fil} {k : Nat} (h : FilesR w lo hi (some ⟨b, off, none⟩) n fs) (hk : k < n) : w.cell? ⟨b, off + k * 4, none⟩ = some (.string (fs.getD k filD).name) := by
  obtain ⟨b', off', hbo, _, _, _, _, y0, _⟩ := h.at_ hk
  injection hbo with hbo; injection hbo with h1 h2
  rw [h1, h2]; exact y0

set_option maxHeartbeats 4000000 in
set_option maxRecDepth 100000 in
theorem specDevicesOk_any (d : Dev) (v : Value) (lo hi : Nat) (w : World) (hx : DevR w lo hi v d) (hhi : hi ≤ w.heap.size) (hs : DevSmall d) :
    Calls Tryz.prog 19 #[v] w fun e w' => e = .returned (.bool (devB d)) ∧ Below w.heap.size w w' := by
  obtain ⟨A, c, F, cf, K, ck, rfl, hA, hF, hK⟩ := hx
  have HRES := Lib.hid (show devB d = (inB d.use 0 d.files.length && scrB d.scr && decide (d.files.length ≤ 3) && decide (d.keys.length ≤ 20) && keysB d.keys && filsTo d.files d.files.length) from rfl)
  have HAT := Lib.hid (fun k hk h => devB_false_at (d := d) (k := k) hk h)
  generalize devB d = RES at *
  obtain ⟨use, scr, files, keys⟩ := d
  obtain ⟨hs1, hs2, hs3⟩ := hs
  dsimp only at *
  have R0 := ((((Stand.nil w).add lo hi _ (loc_strR0 lo hi A _ scr.rows) hhi hA).add lo hi _ (loc_filesR lo hi F _ files) hhi hF).add lo hi _ (loc_strR0 lo hi K _ keys) hhi hK).box 32 (devCs ⟨use, scr, files, keys⟩ A c F cf K ck)
  have HR0 := Lib.hid R0; have HS1 := Lib.hid hs1; have HS2 := Lib.hid hs2; have HS3 := Lib.hid hs3
  have hk := hs3.1; have hfl := hs2.1
  clear hA hF hK R0 hs1 hs2 hs3
  have no : ∀ b : Bool, b = false → RES = b → Ending.returned (.bool false) = Ending.returned (.bool RES) := fun b h1 h2 => by rw [h2, h1]
  have NO := Lib.hid no; clear no
  have HI := Lib.hid (fun W => l00In_any use 0 files.length W)
  cases hI : inB use 0 files.length <;> rw [hI] at HI HRES <;> clear hI
  · go_enter Tryz.func19, Tryz.ntmps19
    go_wp2_with fail
    refine (HI.out _).mono ?_
    rintro e1 w1 ⟨rfl, rfl⟩
    go_wp2_with fail
    go_ret
    exact ⟨NO.out _ rfl (by rw [HRES.out]; rfl), HR0.out.1⟩
  have HO := Lib.hid (fun W h1 h2 => specScreenOk_any scr (.agg #[.int .i64 scr.row, .int .i64 scr.col, .slice A scr.rows.length c]) lo hi W ⟨A, c, rfl, h1⟩ h2 HS1.out)
  cases hO : scrB scr <;> rw [hO] at HO HRES <;> clear hO
  · go_enter Tryz.func19, Tryz.ntmps19
    go_wp2_with fail
    refine (HI.out _).mono ?_
    rintro e1 w1 ⟨rfl, rfl⟩
    go_wp2_with fail
    refine (HO.out _ (HR0.out.get 3 rfl) (HR0.out.le 3 rfl)).mono ?_
    rintro e2 w2 ⟨rfl, hb2⟩
    have HB := Lib.hid (HR0.out.below hb2); clear hb2
    go_wp2_with fail
    go_ret
    exact ⟨NO.out _ rfl (by rw [HRES.out]; rfl), HB.out.1⟩
  by_cases h3 : 3 < files.length ∨ 20 < keys.length
  · have hr : RES = false := by
      rw [HRES.out]
      rcases h3 with h | h
      · rw [decide_eq_false (show ¬ files.length ≤ 3 by omega)]; simp
      · rw [decide_eq_false (show ¬ keys.length ≤ 20 by omega)]; simp
    have HRF := Lib.hid hr; clear hr
    go_enter Tryz.func19, Tryz.ntmps19
    go_wp2_with fail
    refine (HI.out _).mono ?_
    rintro e1 w1 ⟨rfl, rfl⟩
    go_wp2_with fail
    refine (HO.out _ (HR0.out.get 3 rfl) (HR0.out.le 3 rfl)).mono ?_
    rintro e2 w2 ⟨rfl, hb2⟩
    have HB := Lib.hid (HR0.out.below hb2); clear hb2
    have f := (HB.out.get 0 rfl).cell
    by_cases h3a : 3 < files.length
    · go_wp2_with fail
      go_ret
      exact ⟨NO.out _ rfl HRF.out, HB.out.1⟩
    · have h3b : 20 < keys.length := by omega
      clear h3
      go_wp2_with fail
      go_ret
      exact ⟨NO.out _ rfl HRF.out, HB.out.1⟩
  have h3a : files.length ≤ 3 := by omega
  have h20 : keys.length ≤ 20 := by omega
  clear h3
  have HRES2 := Lib.hid (show RES = (keysB keys && filsTo files files.length) by rw [HRES.out, decide_eq_true h3a, decide_eq_true h20]; simp)
  clear HRES
  go_enter Tryz.func19, Tryz.ntmps19
  go_wp2_with fail
  refine (HI.out _).mono ?_
  rintro e1 w1 ⟨rfl, rfl⟩
  go_wp2_with fail
  refine (HO.out _ (HR0.out.get 3 rfl) (HR0.out.le 3 rfl)).mono ?_
  rintro e2 w2 ⟨rfl, hb2⟩
  have HR2 := Lib.hid (HR0.out.below hb2)
  have f := (HR2.out.get 0 rfl).cell
  clear hb2 HI HO HR0
  go_wp2_with fail
  go_loopw [3] (fun i wr => ∃ k : Nat, k ≤ files.length ∧ i = .int .i64 k ∧ filsTo files k = true ∧ Below w2.heap.size w2 wr) (fun i _ => files.length - (intOf i).toNat)
  case atStart => exact ⟨0, Nat.zero_le _, rfl, rfl, Below.refl _ _⟩
  case round =>
    clear f
    obtain ⟨k, hkl, rfl, ht, hb⟩ := hrel
    have HT := Lib.hid ht; clear ht
    have HRk := Lib.hid (HR2.out.below hb)
    have hsz := hb.size
    have HBk := Lib.hid hb; clear hb
    by_cases hlt : k < files.length
    · obtain ⟨b, off, rfl, hb1, hb2, L1, d1, e0, e1, e2, e3, hL⟩ := (HRk.out.get 2 rfl).at_ hlt
      have HX := Lib.hid (HS2.out.2 _ (getD_mem (d := filD) hlt))
      have HS := Lib.hid (filsTo_succ files k)
      have HA := Lib.hid (HAT.out k hlt)
      have HO := Lib.hid (show filOkAt files k = (filB (files.getD k filD) && (decide (k = 0) || Op.bytesLess (files.getD (k - 1) filD).name.toList (files.getD k filD).name.toList)) from rfl)
      have HF := Lib.hid (HRk.out.get 2 rfl)
      generalize files.getD k filD = X at *
      have f := (HRk.out.get 0 rfl).cell
      have HL := Lib.hid hL
      have hwi : hi ≤ wr.drew.heap.size := (show hi ≤ wr.heap.size from HRk.out.le 2 rfl)
      have hgw : w.heap.size < wr.drew.heap.size := (show w.heap.size < wr.heap.size from (HRk.out.get 0 rfl).lt)
      have hbw : b < wr.drew.heap.size := (show b < wr.heap.size from Nat.lt_of_lt_of_le hb2 (HRk.out.le 2 rfl))
      have HLd := Lib.hid (HL.out.drewN 1)
      have HRd := Lib.hid HRk.out.drew
      have i0 : (0 : Int) ≤ (k : Int) := by omega
      have i1 : (k : Int) < (files.length : Int) := by omega
      clear hL
      cases hX : filB X
      · rw [hX] at HO
        have HXF := Lib.hid hX; clear hX
        go_wp2_with fail
        refine wp_region_held_drew (S := (fun w' => (∀ i, w'.cell? ⟨w.heap.size, i, none⟩ = (devCs ⟨use, scr, files, keys⟩ A c (some ⟨b, off, none⟩) cf K ck)[i]?) ∧ w'.cell? ⟨b, off + k * 4, none⟩ = some (.string X.name) ∧ w'.cell? ⟨b, off + k * 4 + 1, none⟩ = some (.slice L1 X.lines.length d1) ∧ w'.cell? ⟨b, off + k * 4 + 2, none⟩ = some (.string X.part) ∧ w'.cell? ⟨b, off + k * 4 + 3, none⟩ = some (.int .i64 X.at_))) (by kernel_rfl) ⟨f, e0, e1, e2, e3⟩ (fun hHeld => ?_)
        ((refine held_take 0 36 ?_ rfl (by kernel_rfl) (by kernel_rfl) (by kernel_rfl) rfl (fun _ _ _ _ h => h) rfl ?_ (by assumption) ?_); rotate_left; (intro w hSw; (try dsimp only at hSw); go_simp; (try (with_reducible rfl))); simp only [Act.put, List.setIfInBounds_toArray, List.set_cons_zero, List.set_cons_succ])
        ((refine held_take 1 37 ?_ rfl (by kernel_rfl) (by kernel_rfl) (by kernel_rfl) rfl (fun _ _ _ _ h => h) rfl ?_ (by assumption) ?_); rotate_left; (intro w hSw; (try dsimp only at hSw); go_simp; (try (with_reducible rfl))); simp only [Act.put, List.setIfInBounds_toArray, List.set_cons_zero, List.set_cons_succ])
        ((refine held_take 2 38 ?_ rfl (by kernel_rfl) (by kernel_rfl) (by kernel_rfl) rfl (fun _ _ _ _ h => h) rfl ?_ (by assumption) ?_); rotate_left; (intro w hSw; (try dsimp only at hSw); go_simp; (try (with_reducible rfl))); simp only [Act.put, List.setIfInBounds_toArray, List.set_cons_zero, List.set_cons_succ])
        ((refine held_take 3 39 ?_ rfl (by kernel_rfl) (by kernel_rfl) (by kernel_rfl) rfl (fun _ _ _ _ h => h) rfl ?_ (by assumption) ?_); rotate_left; (intro w hSw; (try dsimp only at hSw); go_simp; (try (with_reducible rfl))); simp only [Act.put, List.setIfInBounds_toArray, List.set_cons_zero, List.set_cons_succ])
        ((refine held_take 4 40 ?_ rfl (by kernel_rfl) (by kernel_rfl) (by kernel_rfl) rfl (fun _ _ _ _ h => h) rfl ?_ (by assumption) ?_); rotate_left; (intro w hSw; (try dsimp only at hSw); go_simp; (try (with_reducible rfl))); simp only [Act.put, List.setIfInBounds_toArray, List.set_cons_zero, List.set_cons_succ])
        ((refine wpAnyH_ready (rs := [5]) (by kernel_rfl) (by simp) ?_); (refine AllReadyH.cons rfl (fun K hK => ?_) AllReadyH.nil); go_simp)
        refine (l31File_any X _ lo hi wr.drew ⟨L1, d1, rfl, HLd.out⟩ hwi HX.out).mono ?_
        rintro e5 w5 ⟨rfl, hb5⟩
        rw [HXF.out]
        go_simp
        refine hK.out _ _ ⟨fun i => (hb5.cell hgw).trans (f i), (hb5.cell hbw).trans e0, (hb5.cell hbw).trans e1, (hb5.cell hbw).trans e2, (hb5.cell hbw).trans e3⟩ (fun hHeld => ?_)
        clear hK K
        (try simp only [Act.put, List.setIfInBounds_toArray, List.set_cons_zero, List.set_cons_succ])
        ((refine held_take 6 42 ?_ rfl (by kernel_rfl) (by kernel_rfl) (by kernel_rfl) rfl (fun _ _ _ _ h => h) rfl ?_ (by assumption) ?_); rotate_left; (intro w hSw; (try dsimp only at hSw); go_simp; (try (with_reducible rfl))); simp only [Act.put, List.setIfInBounds_toArray, List.set_cons_zero, List.set_cons_succ])
        ((refine held_take 7 43 ?_ rfl (by kernel_rfl) (by kernel_rfl) (by kernel_rfl) rfl (fun _ _ _ _ h => h) rfl ?_ (by assumption) ?_); rotate_left; (intro w hSw; (try dsimp only at hSw); go_simp; (try (with_reducible rfl))); simp only [Act.put, List.setIfInBounds_toArray, List.set_cons_zero, List.set_cons_succ])
        ((refine held_skip 8 44 rfl (by kernel_rfl) (by kernel_rfl) (by kernel_rfl) rfl (fun _ _ _ _ h => h) rfl (by assumption) ?_); simp only [Act.put, List.setIfInBounds_toArray, List.set_cons_zero, List.set_cons_succ])
        ((refine held_skip 9 45 rfl (by kernel_rfl) (by kernel_rfl) (by kernel_rfl) rfl (fun _ _ _ _ h => h) rfl (by assumption) ?_); simp only [Act.put, List.setIfInBounds_toArray, List.set_cons_zero, List.set_cons_succ])
        ((refine held_skip 10 46 rfl (by kernel_rfl) (by kernel_rfl) (by kernel_rfl) rfl (fun _ _ _ _ h => h) rfl (by assumption) ?_); simp only [Act.put, List.setIfInBounds_toArray, List.set_cons_zero, List.set_cons_succ])
        ((refine held_skip 11 47 rfl (by kernel_rfl) (by kernel_rfl) (by kernel_rfl) rfl (fun _ _ _ _ h => h) rfl (by assumption) ?_); simp only [Act.put, List.setIfInBounds_toArray, List.set_cons_zero, List.set_cons_succ])
        ((refine held_skip 12 48 rfl (by kernel_rfl) (by kernel_rfl) (by kernel_rfl) rfl (fun _ _ _ _ h => h) rfl (by assumption) ?_); simp only [Act.put, List.setIfInBounds_toArray, List.set_cons_zero, List.set_cons_succ])
        ((refine held_skip 13 49 rfl (by kernel_rfl) (by kernel_rfl) (by kernel_rfl) rfl (fun _ _ _ _ h => h) rfl (by assumption) ?_); simp only [Act.put, List.setIfInBounds_toArray, List.set_cons_zero, List.set_cons_succ])
        ((refine held_skip 14 50 rfl (by kernel_rfl) (by kernel_rfl) (by kernel_rfl) rfl (fun _ _ _ _ h => h) rfl (by assumption) ?_); simp only [Act.put, List.setIfInBounds_toArray, List.set_cons_zero, List.set_cons_succ])
        ((refine held_skip 15 51 rfl (by kernel_rfl) (by kernel_rfl) (by kernel_rfl) rfl (fun _ _ _ _ h => h) rfl (by assumption) ?_); simp only [Act.put, List.setIfInBounds_toArray, List.set_cons_zero, List.set_cons_succ])
        ((refine held_skip 16 52 rfl (by kernel_rfl) (by kernel_rfl) (by kernel_rfl) rfl (fun _ _ _ _ h => h) rfl (by assumption) ?_); simp only [Act.put, List.setIfInBounds_toArray, List.set_cons_zero, List.set_cons_succ])
        ((refine held_skip 17 53 rfl (by kernel_rfl) (by kernel_rfl) (by kernel_rfl) rfl (fun _ _ _ _ h => h) rfl (by assumption) ?_); simp only [Act.put, List.setIfInBounds_toArray, List.set_cons_zero, List.set_cons_succ])
        ((refine held_skip 18 54 rfl (by kernel_rfl) (by kernel_rfl) (by kernel_rfl) rfl (fun _ _ _ _ h => h) rfl (by assumption) ?_); simp only [Act.put, List.setIfInBounds_toArray, List.set_cons_zero, List.set_cons_succ])
        ((refine held_skip 19 55 rfl (by kernel_rfl) (by kernel_rfl) (by kernel_rfl) rfl (fun _ _ _ _ h => h) rfl (by assumption) ?_); simp only [Act.put, List.setIfInBounds_toArray, List.set_cons_zero, List.set_cons_succ])
        ((refine held_skip 20 56 rfl (by kernel_rfl) (by kernel_rfl) (by kernel_rfl) rfl (fun _ _ _ _ h => h) rfl (by assumption) ?_); simp only [Act.put, List.setIfInBounds_toArray, List.set_cons_zero, List.set_cons_succ])
        ((refine held_skip 21 57 rfl (by kernel_rfl) (by kernel_rfl) (by kernel_rfl) rfl (fun _ _ _ _ h => h) rfl (by assumption) ?_); simp only [Act.put, List.setIfInBounds_toArray, List.set_cons_zero, List.set_cons_succ])
        ((refine held_skip 22 58 rfl (by kernel_rfl) (by kernel_rfl) (by kernel_rfl) rfl (fun _ _ _ _ h => h) rfl (by assumption) ?_); simp only [Act.put, List.setIfInBounds_toArray, List.set_cons_zero, List.set_cons_succ])
        ((refine held_skip 23 59 rfl (by kernel_rfl) (by kernel_rfl) (by kernel_rfl) rfl (fun _ _ _ _ h => h) rfl (by assumption) ?_); simp only [Act.put, List.setIfInBounds_toArray, List.set_cons_zero, List.set_cons_succ])
        ((refine held_skip 24 60 rfl (by kernel_rfl) (by kernel_rfl) (by kernel_rfl) rfl (fun _ _ _ _ h => h) rfl (by assumption) ?_); simp only [Act.put, List.setIfInBounds_toArray, List.set_cons_zero, List.set_cons_succ])
        ((refine held_skip 25 61 rfl (by kernel_rfl) (by kernel_rfl) (by kernel_rfl) rfl (fun _ _ _ _ h => h) rfl (by assumption) ?_); simp only [Act.put, List.setIfInBounds_toArray, List.set_cons_zero, List.set_cons_succ])
        ((refine held_take 26 62 ?_ rfl (by kernel_rfl) (by kernel_rfl) (by kernel_rfl) rfl (fun _ _ _ _ h => h) rfl ?_ (by assumption) ?_); rotate_left; (intro w hSw; (try dsimp only at hSw); go_simp; (try (with_reducible rfl))); simp only [Act.put, List.setIfInBounds_toArray, List.set_cons_zero, List.set_cons_succ])
        refine wpAnyH_done (by kernel_rfl) ?_ _
        have HB5 := Lib.hid (HRd.out.below hb5); clear hb5
        go_wp2_with fail
        go_ret
        exact ⟨NO.out _ rfl (HA.out (by rw [HO.out]; rfl)), HB5.out.1⟩
      · rw [hX] at HO
        have HXF := Lib.hid hX; clear hX
        by_cases hk0 : k = 0
        · have HK0 := Lib.hid hk0
          have nk : decide ((0 : Int) < (k : Int)) = false := by rw [decide_eq_false_iff_not]; omega
          have nk' : decide (0 < k) = false := by rw [decide_eq_false_iff_not]; omega
          clear hk0
          go_wp2_with fail
          refine wp_region_held_drew (S := (fun w' => (∀ i, w'.cell? ⟨w.heap.size, i, none⟩ = (devCs ⟨use, scr, files, keys⟩ A c (some ⟨b, off, none⟩) cf K ck)[i]?) ∧ w'.cell? ⟨b, off + k * 4, none⟩ = some (.string X.name) ∧ w'.cell? ⟨b, off + k * 4 + 1, none⟩ = some (.slice L1 X.lines.length d1) ∧ w'.cell? ⟨b, off + k * 4 + 2, none⟩ = some (.string X.part) ∧ w'.cell? ⟨b, off + k * 4 + 3, none⟩ = some (.int .i64 X.at_))) (by kernel_rfl) ⟨f, e0, e1, e2, e3⟩ (fun hHeld => ?_)
          ((refine held_take 0 36 ?_ rfl (by kernel_rfl) (by kernel_rfl) (by kernel_rfl) rfl (fun _ _ _ _ h => h) rfl ?_ (by assumption) ?_); rotate_left; (intro w hSw; (try dsimp only at hSw); go_simp; (try (with_reducible rfl))); simp only [Act.put, List.setIfInBounds_toArray, List.set_cons_zero, List.set_cons_succ])
          ((refine held_take 1 37 ?_ rfl (by kernel_rfl) (by kernel_rfl) (by kernel_rfl) rfl (fun _ _ _ _ h => h) rfl ?_ (by assumption) ?_); rotate_left; (intro w hSw; (try dsimp only at hSw); go_simp; (try (with_reducible rfl))); simp only [Act.put, List.setIfInBounds_toArray, List.set_cons_zero, List.set_cons_succ])
          ((refine held_take 2 38 ?_ rfl (by kernel_rfl) (by kernel_rfl) (by kernel_rfl) rfl (fun _ _ _ _ h => h) rfl ?_ (by assumption) ?_); rotate_left; (intro w hSw; (try dsimp only at hSw); go_simp; (try (with_reducible rfl))); simp only [Act.put, List.setIfInBounds_toArray, List.set_cons_zero, List.set_cons_succ])
          ((refine held_take 3 39 ?_ rfl (by kernel_rfl) (by kernel_rfl) (by kernel_rfl) rfl (fun _ _ _ _ h => h) rfl ?_ (by assumption) ?_); rotate_left; (intro w hSw; (try dsimp only at hSw); go_simp; (try (with_reducible rfl))); simp only [Act.put, List.setIfInBounds_toArray, List.set_cons_zero, List.set_cons_succ])
          ((refine held_take 4 40 ?_ rfl (by kernel_rfl) (by kernel_rfl) (by kernel_rfl) rfl (fun _ _ _ _ h => h) rfl ?_ (by assumption) ?_); rotate_left; (intro w hSw; (try dsimp only at hSw); go_simp; (try (with_reducible rfl))); simp only [Act.put, List.setIfInBounds_toArray, List.set_cons_zero, List.set_cons_succ])
          ((refine wpAnyH_ready (rs := [5]) (by kernel_rfl) (by simp) ?_); (refine AllReadyH.cons rfl (fun K hK => ?_) AllReadyH.nil); go_simp)
          refine (l31File_any X _ lo hi wr.drew ⟨L1, d1, rfl, HLd.out⟩ hwi HX.out).mono ?_
          rintro e5 w5 ⟨rfl, hb5⟩
          rw [HXF.out]
          go_simp
          refine hK.out _ _ ⟨fun i => (hb5.cell hgw).trans (f i), (hb5.cell hbw).trans e0, (hb5.cell hbw).trans e1, (hb5.cell hbw).trans e2, (hb5.cell hbw).trans e3⟩ (fun hHeld => ?_)
          clear hK K
          (try simp only [Act.put, List.setIfInBounds_toArray, List.set_cons_zero, List.set_cons_succ])
          ((refine held_take 6 42 ?_ rfl (by kernel_rfl) (by kernel_rfl) (by kernel_rfl) rfl (fun _ _ _ _ h => h) rfl ?_ (by assumption) ?_); rotate_left; (intro w hSw; (try dsimp only at hSw); go_simp; (try (with_reducible rfl))); simp only [Act.put, List.setIfInBounds_toArray, List.set_cons_zero, List.set_cons_succ])
          ((refine held_take 7 43 ?_ rfl (by kernel_rfl) (by kernel_rfl) (by kernel_rfl) rfl (fun _ _ _ _ h => h) rfl ?_ (by assumption) ?_); rotate_left; (intro w hSw; (try dsimp only at hSw); go_simp; (try (with_reducible rfl))); simp only [Act.put, List.setIfInBounds_toArray, List.set_cons_zero, List.set_cons_succ])
          ((refine held_take 8 44 ?_ rfl (by kernel_rfl) (by kernel_rfl) (by kernel_rfl) rfl (fun _ _ _ _ h => h) rfl ?_ (by assumption) ?_); rotate_left; (intro w hSw; (try dsimp only at hSw); go_simp; (try (with_reducible rfl))); simp only [Act.put, List.setIfInBounds_toArray, List.set_cons_zero, List.set_cons_succ])
          ((refine held_take 9 45 ?_ rfl (by kernel_rfl) (by kernel_rfl) (by kernel_rfl) rfl (fun _ _ _ _ h => h) rfl ?_ (by assumption) ?_); rotate_left; (intro w hSw; (try dsimp only at hSw); go_simp; (try (with_reducible rfl))); simp only [Act.put, List.setIfInBounds_toArray, List.set_cons_zero, List.set_cons_succ])
          ((refine held_take 10 46 ?_ rfl (by kernel_rfl) (by kernel_rfl) (by kernel_rfl) rfl (fun _ _ _ _ h => h) rfl ?_ (by assumption) ?_); rotate_left; (intro w hSw; (try dsimp only at hSw); go_simp; (try (with_reducible rfl))); simp only [Act.put, List.setIfInBounds_toArray, List.set_cons_zero, List.set_cons_succ])
          ((refine held_skip 11 47 rfl (by kernel_rfl) (by kernel_rfl) (by kernel_rfl) rfl (fun _ _ _ _ h => h) rfl (by assumption) ?_); simp only [Act.put, List.setIfInBounds_toArray, List.set_cons_zero, List.set_cons_succ])
          ((refine held_skip 12 48 rfl (by kernel_rfl) (by kernel_rfl) (by kernel_rfl) rfl (fun _ _ _ _ h => h) rfl (by assumption) ?_); simp only [Act.put, List.setIfInBounds_toArray, List.set_cons_zero, List.set_cons_succ])
          ((refine held_skip 13 49 rfl (by kernel_rfl) (by kernel_rfl) (by kernel_rfl) rfl (fun _ _ _ _ h => h) rfl (by assumption) ?_); simp only [Act.put, List.setIfInBounds_toArray, List.set_cons_zero, List.set_cons_succ])
          ((refine held_skip 14 50 rfl (by kernel_rfl) (by kernel_rfl) (by kernel_rfl) rfl (fun _ _ _ _ h => h) rfl (by assumption) ?_); simp only [Act.put, List.setIfInBounds_toArray, List.set_cons_zero, List.set_cons_succ])
          ((refine held_skip 15 51 rfl (by kernel_rfl) (by kernel_rfl) (by kernel_rfl) rfl (fun _ _ _ _ h => h) rfl (by assumption) ?_); simp only [Act.put, List.setIfInBounds_toArray, List.set_cons_zero, List.set_cons_succ])
          ((refine held_skip 16 52 rfl (by kernel_rfl) (by kernel_rfl) (by kernel_rfl) rfl (fun _ _ _ _ h => h) rfl (by assumption) ?_); simp only [Act.put, List.setIfInBounds_toArray, List.set_cons_zero, List.set_cons_succ])
          ((refine held_skip 17 53 rfl (by kernel_rfl) (by kernel_rfl) (by kernel_rfl) rfl (fun _ _ _ _ h => h) rfl (by assumption) ?_); simp only [Act.put, List.setIfInBounds_toArray, List.set_cons_zero, List.set_cons_succ])
          ((refine held_skip 18 54 rfl (by kernel_rfl) (by kernel_rfl) (by kernel_rfl) rfl (fun _ _ _ _ h => h) rfl (by assumption) ?_); simp only [Act.put, List.setIfInBounds_toArray, List.set_cons_zero, List.set_cons_succ])
          ((refine held_skip 19 55 rfl (by kernel_rfl) (by kernel_rfl) (by kernel_rfl) rfl (fun _ _ _ _ h => h) rfl (by assumption) ?_); simp only [Act.put, List.setIfInBounds_toArray, List.set_cons_zero, List.set_cons_succ])
          ((refine held_skip 20 56 rfl (by kernel_rfl) (by kernel_rfl) (by kernel_rfl) rfl (fun _ _ _ _ h => h) rfl (by assumption) ?_); simp only [Act.put, List.setIfInBounds_toArray, List.set_cons_zero, List.set_cons_succ])
          ((refine held_skip 21 57 rfl (by kernel_rfl) (by kernel_rfl) (by kernel_rfl) rfl (fun _ _ _ _ h => h) rfl (by assumption) ?_); simp only [Act.put, List.setIfInBounds_toArray, List.set_cons_zero, List.set_cons_succ])
          ((refine held_skip 22 58 rfl (by kernel_rfl) (by kernel_rfl) (by kernel_rfl) rfl (fun _ _ _ _ h => h) rfl (by assumption) ?_); simp only [Act.put, List.setIfInBounds_toArray, List.set_cons_zero, List.set_cons_succ])
          ((refine held_skip 23 59 rfl (by kernel_rfl) (by kernel_rfl) (by kernel_rfl) rfl (fun _ _ _ _ h => h) rfl (by assumption) ?_); simp only [Act.put, List.setIfInBounds_toArray, List.set_cons_zero, List.set_cons_succ])
          ((refine held_skip 24 60 rfl (by kernel_rfl) (by kernel_rfl) (by kernel_rfl) rfl (fun _ _ _ _ h => h) rfl (by assumption) ?_); simp only [Act.put, List.setIfInBounds_toArray, List.set_cons_zero, List.set_cons_succ])
          ((refine held_take 25 61 ?_ rfl (by kernel_rfl) (by kernel_rfl) (by kernel_rfl) rfl (fun _ _ _ _ h => h) rfl ?_ (by assumption) ?_); rotate_left; (intro w hSw; (try dsimp only at hSw); go_simp; (try (with_reducible rfl))); simp only [Act.put, List.setIfInBounds_toArray, List.set_cons_zero, List.set_cons_succ])
          ((refine held_take 26 62 ?_ rfl (by kernel_rfl) (by kernel_rfl) (by kernel_rfl) rfl (fun _ _ _ _ h => h) rfl ?_ (by assumption) ?_); rotate_left; (intro w hSw; (try dsimp only at hSw); go_simp; (try (with_reducible rfl))); simp only [Act.put, List.setIfInBounds_toArray, List.set_cons_zero, List.set_cons_succ])
          refine wpAnyH_done (by kernel_rfl) ?_ _
          have HB5 := Lib.hid (HBk.out.trans ((below_drewN' wr 1).mono hsz |>.trans (hb5.mono hsz))); clear hb5
          go_wp2_with fail
          go_roundw
          case rel => exact ⟨k + 1, by omega, by go_num, by rw [HS.out, HT.out, HO.out, decide_eq_true HK0.out]; rfl, HB5.out⟩
          case measure => simp [intOf]; omega
        · obtain ⟨b', off', hbo, _, _, L2, d2, y0, y1, y2, y3, hL2⟩ := HF.out.at_ (show k - 1 < files.length by omega)
          obtain ⟨rfl, rfl⟩ : b = b' ∧ off = off' := by
            injection hbo with hbo; injection hbo with h1 h2; exact ⟨h1, h2⟩
          clear hL2 y1 y2 y3 hbo
          rw [decide_eq_false hk0, Bool.true_and, Bool.false_or] at HO
          generalize files.getD (k - 1) filD = Y at *
          have nk : decide ((0 : Int) < (k : Int)) = true := by rw [decide_eq_true_iff]; omega
          have nk' : decide (0 < k) = true := by rw [decide_eq_true_iff]; omega
          have j2 : (0 : Int) ≤ (k : Int) - 1 := by omega
          have j2' : 1 ≤ k := by omega
          have j5 : (1 : Int) ≤ (k : Int) := by omega
          have j3 : (k : Int) - 1 < (files.length : Int) := by omega
          have j1 : IntKind.i64.wrap ((k : Int) - 1) = (k : Int) - 1 := IntWalk.i64_in _ (by omega)
          have j4 : ((k : Int) - 1).toNat = k - 1 := by omega
          clear hk0
          cases hL : Op.bytesLess Y.name.toList X.name.toList <;> rw [hL] at HO
          all_goals
            go_wp2_with fail
            refine wp_region_held_drew (S := (fun w' => (∀ i, w'.cell? ⟨w.heap.size, i, none⟩ = (devCs ⟨use, scr, files, keys⟩ A c (some ⟨b, off, none⟩) cf K ck)[i]?) ∧ w'.cell? ⟨b, off + k * 4, none⟩ = some (.string X.name) ∧ w'.cell? ⟨b, off + k * 4 + 1, none⟩ = some (.slice L1 X.lines.length d1) ∧ w'.cell? ⟨b, off + k * 4 + 2, none⟩ = some (.string X.part) ∧ w'.cell? ⟨b, off + k * 4 + 3, none⟩ = some (.int .i64 X.at_) ∧ w'.cell? ⟨b, off + (k - 1) * 4, none⟩ = some (.string Y.name))) (by kernel_rfl) ⟨f, e0, e1, e2, e3, y0⟩ (fun hHeld => ?_)
            ((refine held_take 0 36 ?_ rfl (by kernel_rfl) (by kernel_rfl) (by kernel_rfl) rfl (fun _ _ _ _ h => h) rfl ?_ (by assumption) ?_); rotate_left; (intro w hSw; (try dsimp only at hSw); go_simp; (try (with_reducible rfl))); simp only [Act.put, List.setIfInBounds_toArray, List.set_cons_zero, List.set_cons_succ])
            ((refine held_take 1 37 ?_ rfl (by kernel_rfl) (by kernel_rfl) (by kernel_rfl) rfl (fun _ _ _ _ h => h) rfl ?_ (by assumption) ?_); rotate_left; (intro w hSw; (try dsimp only at hSw); go_simp; (try (with_reducible rfl))); simp only [Act.put, List.setIfInBounds_toArray, List.set_cons_zero, List.set_cons_succ])
            ((refine held_take 2 38 ?_ rfl (by kernel_rfl) (by kernel_rfl) (by kernel_rfl) rfl (fun _ _ _ _ h => h) rfl ?_ (by assumption) ?_); rotate_left; (intro w hSw; (try dsimp only at hSw); go_simp; (try (with_reducible rfl))); simp only [Act.put, List.setIfInBounds_toArray, List.set_cons_zero, List.set_cons_succ])
            ((refine held_take 3 39 ?_ rfl (by kernel_rfl) (by kernel_rfl) (by kernel_rfl) rfl (fun _ _ _ _ h => h) rfl ?_ (by assumption) ?_); rotate_left; (intro w hSw; (try dsimp only at hSw); go_simp; (try (with_reducible rfl))); simp only [Act.put, List.setIfInBounds_toArray, List.set_cons_zero, List.set_cons_succ])
            ((refine held_take 4 40 ?_ rfl (by kernel_rfl) (by kernel_rfl) (by kernel_rfl) rfl (fun _ _ _ _ h => h) rfl ?_ (by assumption) ?_); rotate_left; (intro w hSw; (try dsimp only at hSw); go_simp; (try (with_reducible rfl))); simp only [Act.put, List.setIfInBounds_toArray, List.set_cons_zero, List.set_cons_succ])
            ((refine wpAnyH_ready (rs := [5]) (by kernel_rfl) (by simp) ?_); (refine AllReadyH.cons rfl (fun K hK => ?_) AllReadyH.nil); go_simp)
            refine (l31File_any X _ lo hi wr.drew ⟨L1, d1, rfl, HLd.out⟩ hwi HX.out).mono ?_
            rintro e5 w5 ⟨rfl, hb5⟩
            rw [HXF.out]
            go_simp
            refine hK.out _ _ ⟨fun i => (hb5.cell hgw).trans (f i), (hb5.cell hbw).trans e0, (hb5.cell hbw).trans e1, (hb5.cell hbw).trans e2, (hb5.cell hbw).trans e3, (hb5.cell hbw).trans y0⟩ (fun hHeld => ?_)
            clear hK K
            (try simp only [Act.put, List.setIfInBounds_toArray, List.set_cons_zero, List.set_cons_succ])
            ((refine held_take 6 42 ?_ rfl (by kernel_rfl) (by kernel_rfl) (by kernel_rfl) rfl (fun _ _ _ _ h => h) rfl ?_ (by assumption) ?_); rotate_left; (intro w hSw; (try dsimp only at hSw); go_simp; (try (with_reducible rfl))); simp only [Act.put, List.setIfInBounds_toArray, List.set_cons_zero, List.set_cons_succ])
            ((refine held_take 7 43 ?_ rfl (by kernel_rfl) (by kernel_rfl) (by kernel_rfl) rfl (fun _ _ _ _ h => h) rfl ?_ (by assumption) ?_); rotate_left; (intro w hSw; (try dsimp only at hSw); go_simp; (try (with_reducible rfl))); simp only [Act.put, List.setIfInBounds_toArray, List.set_cons_zero, List.set_cons_succ])
            ((refine held_take 8 44 ?_ rfl (by kernel_rfl) (by kernel_rfl) (by kernel_rfl) rfl (fun _ _ _ _ h => h) rfl ?_ (by assumption) ?_); rotate_left; (intro w hSw; (try dsimp only at hSw); go_simp; (try (with_reducible rfl))); simp only [Act.put, List.setIfInBounds_toArray, List.set_cons_zero, List.set_cons_succ])
            ((refine held_take 9 45 ?_ rfl (by kernel_rfl) (by kernel_rfl) (by kernel_rfl) rfl (fun _ _ _ _ h => h) rfl ?_ (by assumption) ?_); rotate_left; (intro w hSw; (try dsimp only at hSw); go_simp; (try (with_reducible rfl))); simp only [Act.put, List.setIfInBounds_toArray, List.set_cons_zero, List.set_cons_succ])
            ((refine held_take 10 46 ?_ rfl (by kernel_rfl) (by kernel_rfl) (by kernel_rfl) rfl (fun _ _ _ _ h => h) rfl ?_ (by assumption) ?_); rotate_left; (intro w hSw; (try dsimp only at hSw); go_simp; (try (with_reducible rfl))); simp only [Act.put, List.setIfInBounds_toArray, List.set_cons_zero, List.set_cons_succ])
            ((refine held_take 11 47 ?_ rfl (by kernel_rfl) (by kernel_rfl) (by kernel_rfl) rfl (fun _ _ _ _ h => h) rfl ?_ (by assumption) ?_); rotate_left; (intro w hSw; (try dsimp only at hSw); go_simp; (try (with_reducible rfl))); simp only [Act.put, List.setIfInBounds_toArray, List.set_cons_zero, List.set_cons_succ])
            ((refine held_take 12 48 ?_ rfl (by kernel_rfl) (by kernel_rfl) (by kernel_rfl) rfl (fun _ _ _ _ h => h) rfl ?_ (by assumption) ?_); rotate_left; (intro w hSw; (try dsimp only at hSw); go_simp; (try (with_reducible rfl))); simp only [Act.put, List.setIfInBounds_toArray, List.set_cons_zero, List.set_cons_succ])
            ((refine held_take 13 49 ?_ rfl (by kernel_rfl) (by kernel_rfl) (by kernel_rfl) rfl (fun _ _ _ _ h => h) rfl ?_ (by assumption) ?_); rotate_left; (intro w hSw; (try dsimp only at hSw); go_simp; (try (with_reducible rfl))); simp only [Act.put, List.setIfInBounds_toArray, List.set_cons_zero, List.set_cons_succ])
            ((refine held_take 14 50 ?_ rfl (by kernel_rfl) (by kernel_rfl) (by kernel_rfl) rfl (fun _ _ _ _ h => h) rfl ?_ (by assumption) ?_); rotate_left; (intro w hSw; (try dsimp only at hSw); go_simp; (try (with_reducible rfl))); simp only [Act.put, List.setIfInBounds_toArray, List.set_cons_zero, List.set_cons_succ])
            ((refine held_take 15 51 ?_ rfl (by kernel_rfl) (by kernel_rfl) (by kernel_rfl) rfl (fun _ _ _ _ h => h) rfl ?_ (by assumption) ?_); rotate_left; (intro w hSw; (try dsimp only at hSw); go_simp; (try (with_reducible rfl))); simp only [Act.put, List.setIfInBounds_toArray, List.set_cons_zero, List.set_cons_succ])
            ((refine held_take 16 52 ?_ rfl (by kernel_rfl) (by kernel_rfl) (by kernel_rfl) rfl (fun _ _ _ _ h => h) rfl ?_ (by assumption) ?_); rotate_left; (intro w hSw; (try dsimp only at hSw); go_simp; (try (with_reducible rfl))); simp only [Act.put, List.setIfInBounds_toArray, List.set_cons_zero, List.set_cons_succ])
            ((refine held_take 17 53 ?_ rfl (by kernel_rfl) (by kernel_rfl) (by kernel_rfl) rfl (fun _ _ _ _ h => h) rfl ?_ (by assumption) ?_); rotate_left; (intro w hSw; (try dsimp only at hSw); go_simp; (try (with_reducible rfl))); simp only [Act.put, List.setIfInBounds_toArray, List.set_cons_zero, List.set_cons_succ])
            ((refine held_take 18 54 ?_ rfl (by kernel_rfl) (by kernel_rfl) (by kernel_rfl) rfl (fun _ _ _ _ h => h) rfl ?_ (by assumption) ?_); rotate_left; (intro w hSw; (try dsimp only at hSw); go_simp; (try (with_reducible rfl))); simp only [Act.put, List.setIfInBounds_toArray, List.set_cons_zero, List.set_cons_succ])
            ((refine held_take 19 55 ?_ rfl (by kernel_rfl) (by kernel_rfl) (by kernel_rfl) rfl (fun _ _ _ _ h => h) rfl ?_ (by assumption) ?_); rotate_left; (intro w hSw; (try dsimp only at hSw); go_simp; (try (with_reducible rfl))); simp only [Act.put, List.setIfInBounds_toArray, List.set_cons_zero, List.set_cons_succ])
            ((refine held_take 20 56 ?_ rfl (by kernel_rfl) (by kernel_rfl) (by kernel_rfl) rfl (fun _ _ _ _ h => h) rfl ?_ (by assumption) ?_); rotate_left; (intro w hSw; (try dsimp only at hSw); go_simp; (try (with_reducible rfl))); simp only [Act.put, List.setIfInBounds_toArray, List.set_cons_zero, List.set_cons_succ])
            ((refine held_take 21 57 ?_ rfl (by kernel_rfl) (by kernel_rfl) (by kernel_rfl) rfl (fun _ _ _ _ h => h) rfl ?_ (by assumption) ?_); rotate_left; (intro w hSw; (try dsimp only at hSw); go_simp; (try (with_reducible rfl))); simp only [Act.put, List.setIfInBounds_toArray, List.set_cons_zero, List.set_cons_succ])
            ((refine held_take 22 58 ?_ rfl (by kernel_rfl) (by kernel_rfl) (by kernel_rfl) rfl (fun _ _ _ _ h => h) rfl ?_ (by assumption) ?_); rotate_left; (intro w hSw; (try dsimp only at hSw); go_simp; (try (with_reducible rfl))); simp only [Act.put, List.setIfInBounds_toArray, List.set_cons_zero, List.set_cons_succ])
            ((refine held_take 23 59 ?_ rfl (by kernel_rfl) (by kernel_rfl) (by kernel_rfl) rfl (fun _ _ _ _ h => h) rfl ?_ (by assumption) ?_); rotate_left; (intro w hSw; (try dsimp only at hSw); go_simp; (try (with_reducible rfl))); simp only [Act.put, List.setIfInBounds_toArray, List.set_cons_zero, List.set_cons_succ])
            ((refine held_take 24 60 ?_ rfl (by kernel_rfl) (by kernel_rfl) (by kernel_rfl) rfl (fun _ _ _ _ h => h) rfl ?_ (by assumption) ?_); rotate_left; (intro w hSw; (try dsimp only at hSw); go_simp; (try (with_reducible rfl))); simp only [Act.put, List.setIfInBounds_toArray, List.set_cons_zero, List.set_cons_succ])
            ((refine held_take 25 61 ?_ rfl (by kernel_rfl) (by kernel_rfl) (by kernel_rfl) rfl (fun _ _ _ _ h => h) rfl ?_ (by assumption) ?_); rotate_left; (intro w hSw; (try dsimp only at hSw); go_simp; (try (with_reducible rfl))); simp only [Act.put, List.setIfInBounds_toArray, List.set_cons_zero, List.set_cons_succ])
            ((refine held_take 26 62 ?_ rfl (by kernel_rfl) (by kernel_rfl) (by kernel_rfl) rfl (fun _ _ _ _ h => h) rfl ?_ (by assumption) ?_); rotate_left; (intro w hSw; (try dsimp only at hSw); go_simp; (try (with_reducible rfl))); simp only [Act.put, List.setIfInBounds_toArray, List.set_cons_zero, List.set_cons_succ])
            refine wpAnyH_done (by kernel_rfl) ?_ _
            have HB5 := Lib.hid (HBk.out.trans ((below_drewN' wr 1).mono hsz |>.trans (hb5.mono hsz))); have HB6 := Lib.hid (HRd.out.below hb5); clear hb5 j1 j4
          · go_wp2_with fail
            go_ret
            exact ⟨NO.out _ rfl (HA.out HO.out), HB6.out.1⟩
          · go_wp2_with fail
            go_roundw
            case rel => exact ⟨k + 1, by omega, by go_num, by rw [HS.out, HT.out, HO.out]; rfl, HB5.out⟩
            case measure => simp [intOf]; omega
    · have hkl : k = files.length := by omega
      have HKL := Lib.hid hkl; clear hkl
      have f := (HRk.out.get 0 rfl).cell
      go_wp2_with fail
      refine (l31Keys_any _ _ _ lo hi keys _ (HRk.out.get 1 rfl) hk (fun x hx => by have := HS3.out.2 x hx; omega)).mono ?_
      rintro e5 w5 ⟨rfl, rfl⟩
      go_wp2_with fail
      go_ret
      refine ⟨congrArg (fun b => Ending.returned (.bool b)) ?_, HRk.out.1⟩
      rw [HRES2.out, ← HKL.out, HT.out, Bool.and_true]

end Go.Proofs.YtmeholhmadeehaaGreatDoor
