/- Drawn devices: what is kept of them while they are made. -/
import Derived.Test.YtmeholhmadeehaaGreatDoorJoinFLAo
import Derived.Test.YtmeholhmadeehaaGreatDoorJoinFLAq
import Derived.Test.YtmeholhmadeehaaGreatDoorJoinFLAs
import Derived.Test.YtmeholhmadeehaaGreatDoorJoinFLAt
namespace Go.Proofs.YtmeholhmadeehaaGreatDoor
open Go.RowKit

theorem OwnDev0.devX {w : World} {lo hi : Nat} {v : Value} {s : Scr} {ks : List ByteArray} (h : OwnDev0 w lo hi v s ks) : DevX w lo hi v ⟨0, s, [], ks⟩ := by
  obtain ⟨A, c, K, d, mid, rfl, h1, h2, h3, h4, h5, h6⟩ := h
  exact DevX.mk1 (xs := []) (n := 0) (a1 := lo) (b1 := mid) (a2 := mid) (b2 := hi) (a3 := hi) (b3 := hi) (OwnK.reads (ck := c) ⟨h3, h4⟩) ⟨h5, h6⟩ rfl rfl
    ⟨World.ownsRow_nil _ _ _ _, (fun g hg => by cases hg), (fun x hx => by cases hx)⟩ ⟨by omega, by omega, by omega, by omega, by omega, by omega⟩ ⟨by omega, by omega, by omega⟩
theorem DevX.more {w : World} {lo hi lo' hi' : Nat} {v : Value} {d : Dev} (h : DevX w lo hi v d) (h1 : lo' ≤ lo) (h2 : hi ≤ hi') : DevX w lo' hi' v d := by
  obtain ⟨A, c, F, cf, K, ck, xs, a1, b1, a2, b2, a3, b3, hv, ⟨k1, k2, k3, k4, k5, k6⟩, r⟩ := h
  exact ⟨A, c, F, cf, K, ck, xs, a1, b1, a2, b2, a3, b3, hv, ⟨by omega, by omega, by omega, by omega, by omega, by omega⟩, r⟩
theorem DevX.cap {w : World} {lo hi : Nat} {v : Value} {d : Dev} (h : DevX w lo hi v d) : ∀ d' A c F cf J cj, v = .agg (devCs d' A c F cf J cj) → d'.keys.length ≤ cj := by
  intro d' A c F cf J cj e
  obtain ⟨A0, c0, F0, cf0, K0, ck0, xs, a1, b1, a2, b2, a3, b3, rfl, _, _, _, ⟨hK, _⟩, _⟩ := h
  injection e with e
  simp only [devCs, Array.mk.injEq, List.cons.injEq, Value.slice.injEq, and_true] at e
  obtain ⟨_, _, _, _, _, e1, e2, e3⟩ := e
  rcases hK.2 with ⟨e4, e5⟩ | ⟨g, cap, cur, e4, _, _, e5, _⟩
  · omega
  · injection e4 with _ _ e6
    omega

/-- The source at p, the devices' variable at X, the devices themselves in blocks from lo up to, not including, hi. -/
structure DLoop (w0 w : World) (p X : Nat) (A : Option Addr) (n c K : Nat) (d : Dev) (A2 : Option Addr) (c2 : Nat) (F2 : Option Addr) (f2 : Nat) (K2 : Option Addr) (k2 lo hi : Nat) : Prop where
  src : ∃ k, k ≤ K ∧ SrcB w p A n c k
  box : Blk w X 32 (devCs d A2 c2 F2 f2 K2 k2)
  dev : DevX w lo hi (.agg (devCs d A2 c2 F2 f2 K2 k2)) d
  top : hi ≤ w.heap.size
  far : hi ≤ X ∨ X < lo
  lop : w0.heap.size ≤ lo
  px : w0.heap.size ≤ X
  low : DevLow d
  mov : Moved p w0 w

section
variable {w0 w w' : World} {p X n c K K' : Nat} {A : Option Addr} {d : Dev} {A2 F2 K2 : Option Addr} {c2 f2 k2 lo hi : Nat}
theorem DLoop.moved (h : DLoop w0 w p X A n c K d A2 c2 F2 f2 K2 k2 lo hi) (hm : Moved p w w') (hp : p < w0.heap.size) (hs : ∃ k, k ≤ K' ∧ SrcB w' p A n c k) : DLoop w0 w' p X A n c K' d A2 c2 F2 f2 K2 k2 lo hi := by
  obtain ⟨h1, h2, h3, h4, h5, h6, h7, h8, h9⟩ := h
  exact ⟨hs, (hm.block X h2.lt (by omega)).trans h2, loc_devX lo hi _ d w w' (fun b q1 q2 => hm.block b (by omega) (by omega)) h3, Nat.le_trans h4 hm.size, h5, h6, h7, h8, h9.trans hm⟩
theorem DLoop.below (h : DLoop w0 w p X A n c K d A2 c2 F2 f2 K2 k2 lo hi) (hb : Below w.heap.size w w') (hp : p < w0.heap.size) : DLoop w0 w' p X A n c K d A2 c2 F2 f2 K2 k2 lo hi :=
  h.moved (Moved.of_below hb) hp (by obtain ⟨q, hq, hs⟩ := h.src; exact ⟨q, hq, hs.below hb hs.lt⟩)
theorem DLoop.bytes {l h : Nat} (hd : DLoop w0 w p X A n c K d A2 c2 F2 f2 K2 k2 lo hi) (hb : BytesR w0 l h A n) (hhi : h ≤ w0.heap.size) (hp : h ≤ p ∨ p < l) : BytesR w l h A n :=
  hb.keep fun b q1 q2 => hd.mov.block b (by omega) (by omega)
/-- A store into a block that is neither of these. -/
theorem DLoop.set (h : DLoop w0 w p X A n c K d A2 c2 F2 f2 K2 k2 lo hi) (hp : p < w0.heap.size) {a : Addr} (h1 : a.block ≠ X) (h2 : a.block < lo ∨ hi ≤ a.block) (h3 : w0.heap.size ≤ a.block) (u : Value) : DLoop w0 (w.setCell a u) p X A n c K d A2 c2 F2 f2 K2 k2 lo hi := by
  obtain ⟨⟨k, hk, q1, hs⟩, g2, g3, g4, g5, g6, g7, g8, g9⟩ := h
  have hh : ∀ b, b ≠ a.block → (w.setCell a u).heap[b]? = w.heap[b]? := fun b hb => Below.heap_setCell w a u b hb
  exact ⟨⟨k, hk, q1, (hh p (by omega)).trans hs⟩, (hh X (by omega)).trans g2, loc_devX lo hi _ d w _ (fun b q1 q2 => hh b (by omega)) g3, by simpa [World.setCell] using g4, g5, g6, g7, g8, g9.set h3 u⟩
theorem DLoop.drew (h : DLoop w0 w p X A n c K d A2 c2 F2 f2 K2 k2 lo hi) (hp : p < w0.heap.size) : DLoop w0 w.drew p X A n c K d A2 c2 F2 f2 K2 k2 lo hi := h.below (below_drewN' w 1) hp
theorem DLoop.alloc (h : DLoop w0 w p X A n c K d A2 c2 F2 f2 K2 k2 lo hi) (hp : p < w0.heap.size) (o : Obj) : DLoop w0 (w.alloc o) p X A n c K d A2 c2 F2 f2 K2 k2 lo hi := h.below ((Below.refl _ _).alloc (Nat.le_refl _) o) hp
end

/-- The variable at b holds other devices. -/
theorem Blk.dev {w : World} {b : Nat} {d d' : Dev} {A F K A' F' K' : Option Addr} {c f k c' f' k' : Nat} (h : Blk w b 32 (devCs d A c F f K k)) :
    Blk ((((((w.setCell ⟨b, 0, none⟩ (.int .i64 d'.use)).setCell ⟨b, 1, none⟩ (.int .i64 d'.scr.row)).setCell ⟨b, 2, none⟩ (.int .i64 d'.scr.col)).setCell ⟨b, 3, none⟩ (.slice A' d'.scr.rows.length c')).setCell ⟨b, 4, none⟩ (.slice F' d'.files.length f')).setCell ⟨b, 5, none⟩ (.slice K' d'.keys.length k')) b 32 (devCs d' A' c' F' f' K' k') := by
  have := ((((((show Blk w b 32 #[.int .i64 d.use, .int .i64 d.scr.row, .int .i64 d.scr.col, .slice A d.scr.rows.length c, .slice F d.files.length f, .slice K d.keys.length k] from h).set_ 0 (.int .i64 d'.use)).set_ 1 (.int .i64 d'.scr.row)).set_ 2 (.int .i64 d'.scr.col)).set_ 3 (.slice A' d'.scr.rows.length c')).set_ 4 (.slice F' d'.files.length f')).set_ 5 (.slice K' d'.keys.length k')
  simpa only [List.setIfInBounds_toArray, List.set_cons_zero, List.set_cons_succ] using this
section
variable {w0 w : World} {p X n c K : Nat} {A : Option Addr} {d d' : Dev} {A2 F2 K2 A' F' K' : Option Addr} {c2 f2 k2 lo hi c' f' k' lo' hi' : Nat}
theorem DLoop.take (h : DLoop w0 w p X A n c K d A2 c2 F2 f2 K2 k2 lo hi) (hp : p < w0.heap.size) (hx : DevX w lo' hi' (.agg (devCs d' A' c' F' f' K' k')) d') (hl : DevLow d') (h1 : hi' ≤ w.heap.size) (hf : hi' ≤ X ∨ X < lo') (h0 : w0.heap.size ≤ lo') :
    DLoop w0 ((((((w.setCell ⟨X, 0, none⟩ (.int .i64 d'.use)).setCell ⟨X, 1, none⟩ (.int .i64 d'.scr.row)).setCell ⟨X, 2, none⟩ (.int .i64 d'.scr.col)).setCell ⟨X, 3, none⟩ (.slice A' d'.scr.rows.length c')).setCell ⟨X, 4, none⟩ (.slice F' d'.files.length f')).setCell ⟨X, 5, none⟩ (.slice K' d'.keys.length k')) p X A n c K d' A' c' F' f' K' k' lo' hi' := by
  obtain ⟨⟨k, hk, q1, hs⟩, g2, g3, g4, g5, g6, g7, g8, g9⟩ := h
  have hh : ∀ b, b ≠ X → ((((((w.setCell ⟨X, 0, none⟩ (.int .i64 d'.use)).setCell ⟨X, 1, none⟩ (.int .i64 d'.scr.row)).setCell ⟨X, 2, none⟩ (.int .i64 d'.scr.col)).setCell ⟨X, 3, none⟩ (.slice A' d'.scr.rows.length c')).setCell ⟨X, 4, none⟩ (.slice F' d'.files.length f')).setCell ⟨X, 5, none⟩ (.slice K' d'.keys.length k')).heap[b]? = w.heap[b]? := fun b hb => by
    iterate 6 (rw [Below.heap_setCell _ _ _ b hb])
  exact ⟨⟨k, hk, q1, (hh p (by omega)).trans hs⟩, Blk.dev g2, loc_devX lo' hi' _ d' w _ (fun b q1 q2 => hh b (by omega)) hx, by simpa [World.setCell] using h1, hf, h0, g7, hl, (((((g9.set (q := ⟨X, 0, none⟩) g7 _).set (q := ⟨X, 1, none⟩) g7 _).set (q := ⟨X, 2, none⟩) g7 _).set (q := ⟨X, 3, none⟩) g7 _).set (q := ⟨X, 4, none⟩) g7 _).set (q := ⟨X, 5, none⟩) g7 _⟩
theorem DLoop.set6 (h : DLoop w0 w p X A n c K d A2 c2 F2 f2 K2 k2 lo hi) (hp : p < w0.heap.size) {Y : Nat} (h1 : Y ≠ X) (h2 : Y < lo ∨ hi ≤ Y) (h3 : w0.heap.size ≤ Y) (u0 u1 u2 u3 u4 u5 : Value) :
    DLoop w0 ((((((w.setCell ⟨Y, 0, none⟩ u0).setCell ⟨Y, 1, none⟩ u1).setCell ⟨Y, 2, none⟩ u2).setCell ⟨Y, 3, none⟩ u3).setCell ⟨Y, 4, none⟩ u4).setCell ⟨Y, 5, none⟩ u5) p X A n c K d A2 c2 F2 f2 K2 k2 lo hi :=
  (((((h.set hp (a := ⟨Y, 0, none⟩) h1 h2 h3 u0).set hp (a := ⟨Y, 1, none⟩) h1 h2 h3 u1).set hp (a := ⟨Y, 2, none⟩) h1 h2 h3 u2).set hp (a := ⟨Y, 3, none⟩) h1 h2 h3 u3).set hp (a := ⟨Y, 4, none⟩) h1 h2 h3 u4).set hp (a := ⟨Y, 5, none⟩) h1 h2 h3 u5
end

theorem DevX.parts {w : World} {lo hi : Nat} {d : Dev} {A F K : Option Addr} {c f k : Nat} (h : DevX w lo hi (.agg (devCs d A c F f K k)) d) :
    ∃ xs a1 b1 a2 b2 a3 b3, (lo ≤ a1 ∧ b1 ≤ hi ∧ lo ≤ a2 ∧ b2 ≤ hi ∧ lo ≤ a3 ∧ b3 ≤ hi) ∧ ((b1 ≤ a2 ∨ b2 ≤ a1) ∧ (b1 ≤ a3 ∨ b3 ≤ a1) ∧ (b2 ≤ a3 ∨ b3 ≤ a2)) ∧ StrR w a1 b1 A d.scr.rows.length d.scr.rows ∧ OwnK w a2 b2 K k d.keys ∧ xs.map Fx.f = d.files ∧ LieFx w a3 b3 F f xs := by
  obtain ⟨A0, c0, F0, cf0, K0, ck0, xs, a1, b1, a2, b2, a3, b3, e, r⟩ := h
  injection e with e
  simp only [devCs, Array.mk.injEq, List.cons.injEq, Value.slice.injEq, and_true, true_and] at e
  obtain ⟨⟨rfl, rfl⟩, ⟨rfl, rfl⟩, rfl, rfl⟩ := e
  exact ⟨xs, a1, b1, a2, b2, a3, b3, r⟩
/-- The devices at the end: the source is done with. -/
structure DEnd (w0 w : World) (p X : Nat) (d : Dev) (A2 : Option Addr) (c2 : Nat) (F2 : Option Addr) (f2 : Nat) (K2 : Option Addr) (k2 lo hi : Nat) : Prop where
  box : Blk w X 32 (devCs d A2 c2 F2 f2 K2 k2)
  dev : DevX w lo hi (.agg (devCs d A2 c2 F2 f2 K2 k2)) d
  top : hi ≤ w.heap.size
  px : w0.heap.size < X
  lop : w0.heap.size < lo
  low : DevSmall d
  mov : Moved p w0 w
section
variable {w0 w w' : World} {p X n c K : Nat} {A : Option Addr} {d : Dev} {A2 F2 K2 : Option Addr} {c2 f2 k2 lo hi : Nat}
theorem DLoop.ended (h : DLoop w0 w p X A n c K d A2 c2 F2 f2 K2 k2 lo hi) (hX : w0.heap.size < X) (hl : w0.heap.size < lo) : DEnd w0 w p X d A2 c2 F2 f2 K2 k2 lo hi :=
  ⟨h.box, h.dev, h.top, hX, hl, h.low.small, h.mov⟩
theorem DEnd.use (h : DEnd w0 w p X d A2 c2 F2 f2 K2 k2 lo hi) (g5 : hi ≤ X ∨ X < lo) (u : Int) : DEnd w0 (w.setCell ⟨X, 0, none⟩ (.int .i64 u)) p X ⟨u, d.scr, d.files, d.keys⟩ A2 c2 F2 f2 K2 k2 lo hi := by
  obtain ⟨g2, g3, g4, g6, g7, g8, g9⟩ := h
  obtain ⟨xs, a1, b1, a2, b2, a3, b3, r1, r2, r3, r4, r5, r6⟩ := g3.parts
  have hlen : xs.length = d.files.length := by rw [← r5, List.length_map]
  have g3' : DevX w lo hi (.agg (devCs ⟨u, d.scr, d.files, d.keys⟩ A2 c2 F2 f2 K2 k2)) ⟨u, d.scr, d.files, d.keys⟩ := DevX.mk1 r3 r4 r5 hlen r6 r1 r2
  have hh : ∀ b, b ≠ X → (w.setCell ⟨X, 0, none⟩ (.int .i64 u)).heap[b]? = w.heap[b]? := fun b hb => Below.heap_setCell w ⟨X, 0, none⟩ _ b hb
  refine ⟨?_, loc_devX lo hi _ _ w _ (fun b q1 q2 => hh b (by omega)) g3', by simpa [World.setCell] using g4, g6, g7, g8, g9.set (q := ⟨X, 0, none⟩) (by show w0.heap.size ≤ X; omega) _⟩
  have := (show Blk w X 32 #[.int .i64 d.use, .int .i64 d.scr.row, .int .i64 d.scr.col, .slice A2 d.scr.rows.length c2, .slice F2 d.files.length f2, .slice K2 d.keys.length k2] from g2).set_ 0 (.int .i64 u)
  simpa only [List.setIfInBounds_toArray, List.set_cons_zero, List.set_cons_succ] using this
theorem DEnd.scr (h : DEnd w0 w p X d A2 c2 F2 f2 K2 k2 lo hi) (g5 : hi ≤ X ∨ X < lo) (hp : p < w0.heap.size) (hm : Moved p w w') {s : Scr} {B : Option Addr} {cap : Nat} (hs : StrR w' w.heap.size w'.heap.size B s.rows.length s.rows) (hz : ScrSmall s) :
    DEnd w0 (((w'.setCell ⟨X, 1, none⟩ (.int .i64 s.row)).setCell ⟨X, 2, none⟩ (.int .i64 s.col)).setCell ⟨X, 3, none⟩ (.slice B s.rows.length cap)) p X ⟨d.use, s, d.files, d.keys⟩ B cap F2 f2 K2 k2 (w0.heap.size + 1) w'.heap.size := by
  obtain ⟨g2, g3, g4, g6, g7, g8, g9⟩ := h
  obtain ⟨xs, a1, b1, a2, b2, a3, b3, r1, r2, r3, r4, r5, r6⟩ := g3.parts
  have hlen : xs.length = d.files.length := by rw [← r5, List.length_map]
  have hXl := g2.lt
  have hsz := hm.size
  have hh : ∀ b, b ≠ X → (((w'.setCell ⟨X, 1, none⟩ (.int .i64 s.row)).setCell ⟨X, 2, none⟩ (.int .i64 s.col)).setCell ⟨X, 3, none⟩ (.slice B s.rows.length cap)).heap[b]? = w'.heap[b]? := fun b hb => by
    iterate 3 (rw [Below.heap_setCell _ _ _ b hb])
  have hk : ∀ b, w0.heap.size ≤ b → b < w.heap.size → b ≠ X → (((w'.setCell ⟨X, 1, none⟩ (.int .i64 s.row)).setCell ⟨X, 2, none⟩ (.int .i64 s.col)).setCell ⟨X, 3, none⟩ (.slice B s.rows.length cap)).heap[b]? = w.heap[b]? := fun b q1 q2 q3 => (hh b q3).trans (hm.block b q2 (by omega))
  refine ⟨?_, DevX.mk1 (a1 := w.heap.size) (b1 := w'.heap.size) (hs.keep fun b q1 q2 => hh b (by omega)) (loc_ownK a2 b2 K2 k2 d.keys w _ (fun b q1 q2 => hk b (by omega) (by omega) (by omega)) r4) r5 hlen (loc_lieFx a3 b3 F2 f2 xs w _ (fun b q1 q2 => hk b (by omega) (by omega) (by omega)) r6) ⟨by omega, by omega, by omega, by omega, by omega, by omega⟩ ⟨by omega, by omega, by omega⟩, by simp [World.setCell], g6, by omega, ⟨hz, g8.2⟩, (((g9.trans hm).set (q := ⟨X, 1, none⟩) (by show w0.heap.size ≤ X; omega) _).set (q := ⟨X, 2, none⟩) (by show w0.heap.size ≤ X; omega) _).set (q := ⟨X, 3, none⟩) (by show w0.heap.size ≤ X; omega) _⟩
  have hb := (hm.block X hXl (by omega)).trans g2
  have := (((show Blk w' X 32 #[.int .i64 d.use, .int .i64 d.scr.row, .int .i64 d.scr.col, .slice A2 d.scr.rows.length c2, .slice F2 d.files.length f2, .slice K2 d.keys.length k2] from hb).set_ 1 (.int .i64 s.row)).set_ 2 (.int .i64 s.col)).set_ 3 (.slice B s.rows.length cap)
  simpa only [List.setIfInBounds_toArray, List.set_cons_zero, List.set_cons_succ] using this
end

end Go.Proofs.YtmeholhmadeehaaGreatDoor

/- Drawn devices at the end: what the last cases of l31Devices' switch do to them. -/
namespace Go.Proofs.YtmeholhmadeehaaGreatDoor
open Go.RowKit

/-- Devices at X that read as d; the source at p is done with. -/
structure DFin (w0 w : World) (p X : Nat) (d : Dev) (A2 : Option Addr) (c2 : Nat) (F2 : Option Addr) (f2 : Nat) (K2 : Option Addr) (k2 : Nat) : Prop where
  box : Blk w X 32 (devCs d A2 c2 F2 f2 K2 k2)
  dev : DevR w (w0.heap.size + 1) w.heap.size (.agg (devCs d A2 c2 F2 f2 K2 k2)) d
  px : w0.heap.size < X
  low : DevSmall d
  mov : Moved p w0 w

/-- The six stores into what is returned. -/
theorem DFin.done {w0 w : World} {p X : Nat} {d : Dev} {A2 : Option Addr} {c2 : Nat} {F2 : Option Addr} {f2 : Nat} {K2 : Option Addr} {k2 : Nat} (h : DFin w0 w p X d A2 c2 F2 f2 K2 k2) (u0 u1 u2 u3 u4 u5 : Value) :
    DevR ((((((w.setCell ⟨w0.heap.size, 0, none⟩ u0).setCell ⟨w0.heap.size, 1, none⟩ u1).setCell ⟨w0.heap.size, 2, none⟩ u2).setCell ⟨w0.heap.size, 3, none⟩ u3).setCell ⟨w0.heap.size, 4, none⟩ u4).setCell ⟨w0.heap.size, 5, none⟩ u5) w0.heap.size ((((((w.setCell ⟨w0.heap.size, 0, none⟩ u0).setCell ⟨w0.heap.size, 1, none⟩ u1).setCell ⟨w0.heap.size, 2, none⟩ u2).setCell ⟨w0.heap.size, 3, none⟩ u3).setCell ⟨w0.heap.size, 4, none⟩ u4).setCell ⟨w0.heap.size, 5, none⟩ u5).heap.size (.agg (devCs d A2 c2 F2 f2 K2 k2)) d ∧
    DevSmall d ∧ Moved p w0 ((((((w.setCell ⟨w0.heap.size, 0, none⟩ u0).setCell ⟨w0.heap.size, 1, none⟩ u1).setCell ⟨w0.heap.size, 2, none⟩ u2).setCell ⟨w0.heap.size, 3, none⟩ u3).setCell ⟨w0.heap.size, 4, none⟩ u4).setCell ⟨w0.heap.size, 5, none⟩ u5) := by
  obtain ⟨h1, h2, h3, h4, h5⟩ := h
  have h6 := (loc_devR (w0.heap.size + 1) w.heap.size _ d).set6 h2 w0.heap.size u0 u1 u2 u3 u4 u5 (.inr (by omega))
  rw [set6_size]
  obtain ⟨A, c, F, cf, K, ck, e, g1, g2, g3⟩ := h6
  exact ⟨⟨A, c, F, cf, K, ck, e, RowR.more g1 (by omega) (Nat.le_refl _), FilesR.more g2 (by omega) (Nat.le_refl _), RowR.more g3 (by omega) (Nat.le_refl _)⟩, h4, (((((h5.set (q := ⟨w0.heap.size, 0, none⟩) (Nat.le_refl _) _).set (q := ⟨w0.heap.size, 1, none⟩) (Nat.le_refl _) _).set (q := ⟨w0.heap.size, 2, none⟩) (Nat.le_refl _) _).set (q := ⟨w0.heap.size, 3, none⟩) (Nat.le_refl _) _).set (q := ⟨w0.heap.size, 4, none⟩) (Nat.le_refl _) _).set (q := ⟨w0.heap.size, 5, none⟩) (Nat.le_refl _) _⟩

theorem LieFx.strR {w w' : World} {lo hi : Nat} {F : Option Addr} {cf : Nat} {xs : List Fx} (h : LieFx w lo hi F cf xs) {x : Fx} (hx : x ∈ xs) (hk : ∀ b, lo ≤ b → b < hi → (Value.slice F xs.length cf).ownBlock ≠ some b → w'.heap[b]? = w.heap[b]?) :
    StrR w' lo hi x.L x.f.lines.length x.f.lines := by
  rcases h.lines x hx with h0 | ⟨b, off, e, h1, h2, h3, h4⟩
  · exact ⟨rfl, fun hn => absurd hn (by omega)⟩
  · exact ⟨rfl, fun _ => ⟨b, off, e, h1, h2, fun j hj => (World.cell?_of_block (hk b h1 h2 h3)).trans (h4 j hj)⟩⟩
theorem LieFx.low {w : World} {lo hi g : Nat} {F : Option Addr} {cf : Nat} {xs : List Fx} (h : LieFx w lo hi F cf xs) (e : (Value.slice F xs.length cf).ownBlock = some g) : lo ≤ g ∧ g < hi := ⟨(h.row.lt g e).1, h.top g e⟩

section
variable {w0 w w' : World} {p X n c K : Nat} {A : Option Addr} {d : Dev} {A2 F2 K2 : Option Addr} {c2 f2 k2 lo hi : Nat}

theorem DLoop.frow (h : DLoop w0 w p X A n c K d A2 c2 F2 f2 K2 k2 lo hi) (hn : 0 < d.files.length) :
    ∃ g, F2 = some ⟨g, 0, none⟩ ∧ lo ≤ g ∧ g < hi ∧ w.cell? ⟨g, 3, none⟩ = some (.int .i64 (d.files.getD 0 filD).at_) := by
  obtain ⟨xs, a1, b1, a2, b2, a3, b3, r1, r2, r3, r4, r5, r6⟩ := h.dev.parts
  have hlen : xs.length = d.files.length := by rw [← r5, List.length_map]
  obtain ⟨g, e, h1, h2, _, _, hc⟩ := row_flat r6.row (by omega)
  have htop := r6.top g (by rw [e]; rfl)
  refine ⟨g, e, by omega, by omega, hc 3 _ ?_⟩
  have h3 := flat_at xs 0 (by omega) 3 (by omega)
  rw [show 0 * 4 + 3 = 3 from rfl] at h3
  have h4 : (d.files.getD 0 filD) = xs[0].f := by rw [← r5, List.getD_eq_getElem?_getD, List.getElem?_map, List.getElem?_eq_getElem (by omega)]; rfl
  rw [h3, h4]; rfl

theorem DLoop.fzn {g : Nat} (h : DLoop w0 w p X A n c K d A2 c2 (some ⟨g, 0, none⟩) f2 K2 k2 lo hi) (hn : 0 < d.files.length) (i : Nat) : w.frozen? ⟨g, i, none⟩ = false := by
  obtain ⟨xs, a1, b1, a2, b2, a3, b3, r1, r2, r3, r4, r5, r6⟩ := h.dev.parts
  have hlen : xs.length = d.files.length := by rw [← r5, List.length_map]
  rcases r6.row.2 with ⟨_, h0⟩ | ⟨g', cap, cur, hv, hg, hh, _⟩
  · omega
  · injection hv with hA
    injection hA with hA
    injection hA with hA
    subst hA
    exact Blk.frozen (show Blk w g 55 cur from hh) i

/-- The first file's At set. -/
theorem DLoop.atZ {g : Nat} (h : DLoop w0 w p X A n c K d A2 c2 (some ⟨g, 0, none⟩) f2 K2 k2 lo hi) (hn : 0 < d.files.length) (hX : w0.heap.size < X) (hlo : w0.heap.size + 1 ≤ lo) (a : Int) :
    DFin w0 (w.setCell ⟨g, 3, none⟩ (.int .i64 a)) p X ⟨d.use, d.scr, d.files.set 0 ⟨(d.files.getD 0 filD).name, (d.files.getD 0 filD).lines, (d.files.getD 0 filD).part, a⟩, d.keys⟩ A2 c2 (some ⟨g, 0, none⟩) f2 K2 k2 := by
  have hlow := h.low.small
  obtain ⟨-, g2, g3, g4, g5, g6, g7, -, g9⟩ := h
  obtain ⟨xs, a1, b1, a2, b2, a3, b3, r1, r2, r3, r4, r5, r6⟩ := g3.parts
  have hlen : xs.length = d.files.length := by rw [← r5, List.length_map]
  have h0 : 0 < xs.length := by omega
  obtain ⟨hg1, hg2⟩ := r6.low (g := g) rfl
  have h4 : (d.files.getD 0 filD) = xs[0].f := by rw [← r5, List.getD_eq_getElem?_getD, List.getElem?_map, List.getElem?_eq_getElem h0]; rfl
  have hmem : xs[0].f ∈ d.files := by rw [← r5]; exact List.mem_map_of_mem (List.getElem_mem h0)
  rw [h4]
  have hh : ∀ b, b ≠ g → (w.setCell ⟨g, 3, none⟩ (.int .i64 a)).heap[b]? = w.heap[b]? := fun b hb => Below.heap_setCell w ⟨g, 3, none⟩ _ b hb
  have hs := r6.row.stored (0 * 4 + 3) (.int .i64 a)
  have hfl := flat_set xs 0 3 ⟨⟨xs[0].f.name, xs[0].f.lines, xs[0].f.part, a⟩, xs[0].L, xs[0].c⟩ (.int .i64 a) h0 (by omega) rfl
  have hrow : (w.setCell ⟨g, 3, none⟩ (.int .i64 a)).ownsRow a3 55 4 (.slice (some ⟨g, 0, none⟩) xs.length f2) xs.length (flat (xs.set 0 ⟨⟨xs[0].f.name, xs[0].f.lines, xs[0].f.part, a⟩, xs[0].L, xs[0].c⟩)) := by rw [hfl]; exact hs.1
  have hF := row_flat' (lo := a3) (hi := b3) hrow (by rw [List.length_set]) (Nat.le_refl _) (fun g' e => r6.top g' e) (fun x hx => by
    have hk : ∀ b, a3 ≤ b → b < b3 → (Value.slice (some ⟨g, 0, none⟩) xs.length f2).ownBlock ≠ some b → (w.setCell ⟨g, 3, none⟩ (.int .i64 a)).heap[b]? = w.heap[b]? := fun b _ _ hb => hh b (fun e => hb (by rw [e]; rfl))
    rcases List.mem_or_eq_of_mem_set hx with hx | rfl
    · exact r6.strR hx hk
    · have h := r6.strR (x := xs[0]) (List.getElem_mem h0) hk
      exact h)
  rw [List.map_set, r5, hlen] at hF
  refine ⟨?_, ⟨A2, c2, some ⟨g, 0, none⟩, f2, K2, k2, rfl, ?_, ?_, ?_⟩, hX, ⟨hlow.1, ⟨by rw [List.length_set]; exact hlow.2.1.1, fun f hf => ?_⟩, hlow.2.2⟩, g9.set (q := ⟨g, 3, none⟩) (by show _ ≤ g; omega) _⟩
  · rw [show devCs ⟨d.use, d.scr, d.files.set 0 ⟨xs[0].f.name, xs[0].f.lines, xs[0].f.part, a⟩, d.keys⟩ A2 c2 (some ⟨g, 0, none⟩) f2 K2 k2 = devCs d A2 c2 (some ⟨g, 0, none⟩) f2 K2 k2 by simp [devCs, List.length_set]]
    exact (hh X (by omega)).trans g2
  · exact RowR.more (RowR.keep r3 (fun b q1 q2 => hh b (by omega))) (by omega) (by simp [World.setCell]; omega)
  · show FilesR _ _ _ _ (d.files.set 0 _).length _
    rw [List.length_set]
    exact FilesR.more hF (by omega) (by simp [World.setCell]; omega)
  · exact RowR.more (RowR.keep r4.reads (fun b q1 q2 => hh b (by omega))) (by omega) (by simp [World.setCell]; omega)
  · rcases List.mem_or_eq_of_mem_set hf with hf | rfl
    · exact hlow.2.1.2 f hf
    · exact (hlow.2.1.2 xs[0].f hmem : FilSmall xs[0].f)

/-- A file appended. -/
theorem DLoop.addF (h : DLoop w0 w p X A n c K d A2 c2 F2 f2 K2 k2 lo hi) {xs : List Fx} {a1 b1 a2 b2 a3 b3 : Nat} (r1 : lo ≤ a1 ∧ b1 ≤ hi ∧ lo ≤ a2 ∧ b2 ≤ hi ∧ lo ≤ a3 ∧ b3 ≤ hi) (r2 : (b1 ≤ a2 ∨ b2 ≤ a1) ∧ (b1 ≤ a3 ∨ b3 ≤ a1) ∧ (b2 ≤ a3 ∨ b3 ≤ a2))
    (r3 : StrR w a1 b1 A2 d.scr.rows.length d.scr.rows) (r4 : OwnK w a2 b2 K2 k2 d.keys) (r5 : xs.map Fx.f = d.files) (r6 : LieFx w a3 b3 F2 f2 xs) (hX : w0.heap.size < X) (hlo : w0.heap.size + 1 ≤ lo) (hp : p < w0.heap.size) {x : ByteArray} (hx : x.size ≤ 1048576) {o : Obj} {A' : Option Addr} {c' : Nat}
    (hr : w'.ownsRow (w0.heap.size + 1) 55 4 (.slice A' (d.files.length + 1) c') (d.files.length + 1) (flat (xs ++ [⟨⟨x, [], ⟨#[]⟩, 0⟩, none, 0⟩]))) (hg : (w.alloc o).grownBy w' (Value.slice F2 d.files.length f2).ownBlock) :
    DFin w0 (w'.setCell ⟨X, 4, none⟩ (.slice A' (d.files.length + 1) c')) p X ⟨d.use, d.scr, d.files ++ [⟨x, [], ⟨#[]⟩, 0⟩], d.keys⟩ A2 c2 A' c' K2 k2 := by
  have hlow := h.low.small
  have hfl := h.low.files
  obtain ⟨-, g2, g3, g4, g5, g6, g7, -, g9⟩ := h
  have hlen : xs.length = d.files.length := by rw [← r5, List.length_map]
  have hXl := g2.lt
  have hz : w.heap.size + 1 ≤ w'.heap.size := by have := hg.size; simpa using this
  have hzz : w.heap.size ≤ w'.heap.size := by omega
  have hob : ∀ b, (Value.slice F2 d.files.length f2).ownBlock = some b → a3 ≤ b ∧ b < b3 := fun b e => r6.low (by rw [hlen]; exact e)
  have hh1 : ∀ b, b < w.heap.size → (Value.slice F2 d.files.length f2).ownBlock ≠ some b → w'.heap[b]? = w.heap[b]? := fun b hb hn => by
    rw [hg.block b (by simp; omega) (fun e => hn e.symm)]
    exact Below.heap_alloc w o b hb
  have hh : ∀ b, b < w.heap.size → b ≠ X → (Value.slice F2 d.files.length f2).ownBlock ≠ some b → (w'.setCell ⟨X, 4, none⟩ (.slice A' (d.files.length + 1) c')).heap[b]? = w.heap[b]? := fun b hb hx hn =>
    (Below.heap_setCell w' ⟨X, 4, none⟩ _ b hx).trans (hh1 b hb hn)
  have hz2 : (w'.setCell ⟨X, 4, none⟩ (.slice A' (d.files.length + 1) c')).heap.size = w'.heap.size := by simp [World.setCell]
  have hlw : ∀ b, A' = some ⟨b, 0, none⟩ → b ≠ X → (w'.setCell ⟨X, 4, none⟩ (.slice A' (d.files.length + 1) c')).heap[b]? = w'.heap[b]? := fun b _ hx => Below.heap_setCell w' ⟨X, 4, none⟩ _ b hx
  obtain ⟨gA, eA, hA1, hA2, _, _, hAc⟩ := row_flat hr (by omega)
  have hgX : gA ≠ X := by
    intro e
    subst e
    have hc0 := hAc 0 (.string ((xs ++ [(⟨⟨x, [], ⟨#[]⟩, 0⟩, none, 0⟩ : Fx)])[0]'(by simp)).f.name) (by
      have h3 := flat_at (xs ++ [(⟨⟨x, [], ⟨#[]⟩, 0⟩, none, 0⟩ : Fx)]) 0 (by simp) 0 (by omega)
      rw [show 0 * 4 + 0 = 0 from rfl] at h3
      rw [h3]; rfl)
    have hc1 : w'.cell? ⟨gA, 0, none⟩ = some (.int .i64 d.use) := (World.cell?_of_block (hh1 gA hXl (fun e => by have := hob gA e; omega))).trans (by rw [g2.cell]; rfl)
    rw [hc0] at hc1; cases hc1
  have hrow : (w'.setCell ⟨X, 4, none⟩ (.slice A' (d.files.length + 1) c')).ownsRow (w0.heap.size + 1) 55 4 (.slice A' (d.files.length + 1) c') (d.files.length + 1) (flat (xs ++ [⟨⟨x, [], ⟨#[]⟩, 0⟩, none, 0⟩])) :=
    own_same hr (fun b hb => hlw b (by rw [eA] at hb ⊢; simpa [Value.ownBlock] using hb) (fun e => hgX (by rw [eA] at hb; simp [Value.ownBlock] at hb; omega)))
  have hF := row_flat' (lo := w0.heap.size + 1) (hi := w'.heap.size) hrow (by simp [hlen]) (by omega) (fun g' e => by have := (hrow.lt g' e).2; omega) (fun y hy => by
    rcases List.mem_append.1 hy with hy | hy
    · exact RowR.more (r6.strR hy (fun b q1 q2 q3 => hh b (by omega) (by omega) (by rw [← hlen]; exact q3))) (by omega) (by omega)
    · obtain rfl : y = ⟨⟨x, [], ⟨#[]⟩, 0⟩, none, 0⟩ := by simpa using hy
      exact ⟨rfl, fun hn => absurd hn (by simp)⟩)
  rw [List.map_append, r5] at hF
  have hne : ∀ b, b < a3 ∨ b3 ≤ b → (Value.slice F2 d.files.length f2).ownBlock ≠ some b := fun b hb e => by have := hob b e; omega
  refine ⟨?_, ⟨A2, c2, A', c', K2, k2, rfl, ?_, ?_, ?_⟩, hX, ⟨hlow.1, ⟨by simp; omega, fun f hf => ?_⟩, hlow.2.2⟩, ⟨hg.os.trans g9.os, hg.tape.trans g9.tape, hg.output.trans g9.output, by rw [hz2]; have := g9.size; omega, fun b hb hn => ?_⟩⟩
  · have hb : Blk w' X 32 (devCs d A2 c2 F2 f2 K2 k2) := (hh1 X hXl (hne X (by omega))).trans g2
    have := (show Blk w' X 32 #[.int .i64 d.use, .int .i64 d.scr.row, .int .i64 d.scr.col, .slice A2 d.scr.rows.length c2, .slice F2 d.files.length f2, .slice K2 d.keys.length k2] from hb).set_ 4 (.slice A' (d.files.length + 1) c')
    rw [show devCs ⟨d.use, d.scr, d.files ++ [⟨x, [], ⟨#[]⟩, 0⟩], d.keys⟩ A2 c2 A' c' K2 k2 = #[.int .i64 d.use, .int .i64 d.scr.row, .int .i64 d.scr.col, .slice A2 d.scr.rows.length c2, .slice A' (d.files.length + 1) c', .slice K2 d.keys.length k2] by simp [devCs]]
    simpa only [List.setIfInBounds_toArray, List.set_cons_zero, List.set_cons_succ] using this
  · exact RowR.more (RowR.keep r3 (fun b q1 q2 => hh b (by omega) (by omega) (hne b (by omega)))) (by omega) (by rw [hz2]; omega)
  · show FilesR _ _ _ _ (d.files ++ _).length _
    rw [List.length_append]
    exact FilesR.more hF (Nat.le_refl _) (by rw [hz2]; exact Nat.le_refl _)
  · exact RowR.more (RowR.keep r4.reads (fun b q1 q2 => hh b (by omega) (by omega) (hne b (by omega)))) (by omega) (by rw [hz2]; omega)
  · rcases List.mem_append.1 hf with hf | hf
    · exact hlow.2.1.2 f hf
    · obtain rfl : f = ⟨x, [], ⟨#[]⟩, 0⟩ := by simpa using hf
      exact ⟨hx, (show (⟨#[]⟩ : ByteArray).size ≤ 1048576 from by decide), Nat.zero_le _, (fun y hy => by cases hy)⟩
  · have := g9.size
    rw [hh b (by omega) (by omega) (hne b (by omega))]
    exact g9.block b hb hn
end

/-- append(row, y) at a row of texts: where the new row lies. -/
theorem wpList_app1L {ops : Array Oper} {rest : List Oper} {o : Oper} {a : Go.Act} {Q : Exit → Go.Act → World → Prop} (hgd : o.guard = none) (s x : Operand)
    (ho : o.op = .call { callee := .builtin .append, args := #[s, x], argTypes := #[22, 22] })
    (w : World) (base : Nat) (v : Value) (n : Nat) (xs : List ByteArray) (y : ByteArray) (hs : a.eval s = v) (hown : w.ownsRow base 9 1 v n (xs.map Value.string))
    (hx : a.eval x = .slice (some ⟨w.heap.size, 0, none⟩) 1 1) (hlen : n ≤ 1000000000) (hbase : base ≤ w.heap.size)
    (h : ∀ g cap w', w'.ownsRow base 9 1 (.slice (some ⟨g, 0, none⟩) (n + 1) cap) (n + 1) ((xs ++ [y]).map Value.string) → (w.alloc (.cells #[.string y] 9)).grownBy w' v.ownBlock → (v.ownBlock = some g ∨ g = w.heap.size + 1) → g < w'.heap.size → wpList Tryz.prog ops Q rest (a.put o.dst (.slice (some ⟨g, 0, none⟩) (n + 1) cap)) w') :
    wpList Tryz.prog ops Q (o :: rest) a (w.alloc (.cells #[.string y] 9)) := by
  obtain ⟨i0, hi0, hz0, hz1, hz2⟩ := info_parts infoString
  refine wpList_append_lies _ hgd s x 22 ho base 9 i0 _ 1 16 Tryz.underlying22 hi0 hz0 hz1 hz2 rfl (by decide) v n (xs.map Value.string) hs (hown.alloc _) ⟨w.heap.size, 0, none⟩ 1 1 [.string y] hx rfl ?_ (by intro u hu; simp at hu; subst hu; rfl) (by omega) (by unfold maxLen; omega) (by omega) (by simp; omega) (w.heap.size + 1) (by simp) fun g cap w' h1 h2 h3 h4 => ?_
  · intro j u hj
    match j, hj with
    | 0, hj => simp at hj; subst hj; simp [Addr.add]
  · exact h g cap w' (by rw [List.map_append]; exact h1) h2 h3 h4

/-- The devices while keys are appended. -/
structure DKey (w0 w : World) (p X N : Nat) (A : Option Addr) (n c K : Nat) (d : Dev) (ks : List ByteArray) (A2 : Option Addr) (c2 : Nat) (F2 : Option Addr) (f2 : Nat) (K2 : Option Addr) (k2 a1 b1 a2 b2 a3 b3 : Nat) : Prop where
  src : ∃ k, k ≤ K ∧ SrcB w p A n c k
  box : Blk w X 32 #[.int .i64 d.use, .int .i64 d.scr.row, .int .i64 d.scr.col, .slice A2 d.scr.rows.length c2, .slice F2 d.files.length f2, .slice K2 ks.length k2]
  rows : StrR w a1 b1 A2 d.scr.rows.length d.scr.rows
  fils : FilesR w a3 b3 F2 d.files.length d.files
  keys : w.ownsRow (w0.heap.size + 1) 9 1 (.slice K2 ks.length k2) ks.length (ks.map Value.string)
  kat : ∀ g, (Value.slice K2 ks.length k2).ownBlock = some g → (a2 ≤ g ∧ g < b2) ∨ N ≤ g
  top : N ≤ w.heap.size
  geo : w0.heap.size + 1 ≤ a1 ∧ b1 ≤ N ∧ w0.heap.size + 1 ≤ a2 ∧ b2 ≤ N ∧ w0.heap.size + 1 ≤ a3 ∧ b3 ≤ N ∧ (b1 ≤ a2 ∨ b2 ≤ a1) ∧ (b2 ≤ a3 ∨ b3 ≤ a2) ∧ (X < a1 ∨ b1 ≤ X) ∧ (X < a2 ∨ b2 ≤ X) ∧ (X < a3 ∨ b3 ≤ X) ∧ w0.heap.size < X ∧ X < N
  low : DevLow d
  num : ks.length ≤ 1000 ∧ ∀ r ∈ ks, r.size ≤ 1000
  mov : Moved p w0 w

section
variable {w0 w w' : World} {p X N n c K K' : Nat} {A : Option Addr} {d : Dev} {ks : List ByteArray} {A2 F2 K2 : Option Addr} {c2 f2 k2 lo hi a1 b1 a2 b2 a3 b3 : Nat}

theorem DLoop.dkey (h : DLoop w0 w p X A n c K d A2 c2 F2 f2 K2 k2 lo hi) (hX : w0.heap.size < X) (hlo : w0.heap.size + 1 ≤ lo) : ∃ a1 b1 a2 b2 a3 b3, DKey w0 w p X w.heap.size A n c K d d.keys A2 c2 F2 f2 K2 k2 a1 b1 a2 b2 a3 b3 := by
  have hlow := h.low
  obtain ⟨g1, g2, g3, g4, g5, g6, g7, -, g9⟩ := h
  obtain ⟨xs, a1, b1, a2, b2, a3, b3, r1, r2, r3, r4, r5, r6⟩ := g3.parts
  have hlen : xs.length = d.files.length := by rw [← r5, List.length_map]
  have hXl := g2.lt
  have hF := r6.reads
  rw [r5] at hF
  exact ⟨a1, b1, a2, b2, a3, b3, g1, g2, r3, hF, own_mono r4.1 (by omega), fun g e => .inl ⟨(r4.1.lt g e).1, r4.2 g e⟩, Nat.le_refl _, ⟨by omega, by omega, by omega, by omega, by omega, by omega, by omega, by omega, by omega, by omega, by omega, by omega, by omega⟩, hlow, ⟨hlow.keys, hlow.key⟩, g9⟩
theorem DKey.moved (h : DKey w0 w p X N A n c K d ks A2 c2 F2 f2 K2 k2 a1 b1 a2 b2 a3 b3) (hm : Moved p w w') (hp : p < w0.heap.size) (hs : ∃ k, k ≤ K' ∧ SrcB w' p A n c k) : DKey w0 w' p X N A n c K' d ks A2 c2 F2 f2 K2 k2 a1 b1 a2 b2 a3 b3 := by
  obtain ⟨h1, h2, h3, h4, h5, h6, h7, h8, h9, h10, h11⟩ := h
  exact ⟨hs, (hm.block X h2.lt (by omega)).trans h2, RowR.keep h3 (fun b q1 q2 => hm.block b (by omega) (by omega)), h4.keep (fun b q1 q2 => hm.block b (by omega) (by omega)), own_same h5 (fun b hb => hm.block b (h5.lt b hb).2 (by have := (h5.lt b hb).1; omega)), h6, Nat.le_trans h7 hm.size, h8, h9, h10, h11.trans hm⟩
theorem DKey.drew (h : DKey w0 w p X N A n c K d ks A2 c2 F2 f2 K2 k2 a1 b1 a2 b2 a3 b3) (hp : p < w0.heap.size) : DKey w0 w.drew p X N A n c K d ks A2 c2 F2 f2 K2 k2 a1 b1 a2 b2 a3 b3 :=
  h.moved (Moved.of_below (below_drewN' w 1)) hp (by obtain ⟨q, hq, hs⟩ := h.src; exact ⟨q, hq, hs.below (below_drewN' w 1) hs.lt⟩)
theorem DKey.bytes {l u : Nat} (hd : DKey w0 w p X N A n c K d ks A2 c2 F2 f2 K2 k2 a1 b1 a2 b2 a3 b3) (hb : BytesR w0 l u A n) (hhi : u ≤ w0.heap.size) (hp : u ≤ p ∨ p < l) : BytesR w l u A n :=
  hb.keep fun b q1 q2 => hd.mov.block b (by omega) (by omega)
/-- A key more. -/
theorem DKey.add (h : DKey w0 w p X N A n c K d ks A2 c2 F2 f2 K2 k2 a1 b1 a2 b2 a3 b3) (hp : p < w0.heap.size) {o : Obj} {y : ByteArray} {g cap : Nat} (hy : y.size ≤ 1000) (hl : ks.length < 1000)
    (hr : w'.ownsRow (w0.heap.size + 1) 9 1 (.slice (some ⟨g, 0, none⟩) (ks.length + 1) cap) (ks.length + 1) ((ks ++ [y]).map Value.string)) (hg : (w.alloc o).grownBy w' (Value.slice K2 ks.length k2).ownBlock) (hat : (Value.slice K2 ks.length k2).ownBlock = some g ∨ g = w.heap.size + 1) :
    DKey w0 (w'.setCell ⟨X, 5, none⟩ (.slice (some ⟨g, 0, none⟩) (ks.length + 1) cap)) p X N A n c K d (ks ++ [y]) A2 c2 F2 f2 (some ⟨g, 0, none⟩) cap a1 b1 a2 b2 a3 b3 := by
  obtain ⟨⟨k, hk, sd, hsb⟩, h2, h3, h4, h5, h6, h7, h8, h9, h10, h11⟩ := h
  have hXl := h2.lt
  have hz : w.heap.size + 1 ≤ w'.heap.size := by have := hg.size; simpa using this
  have hob : ∀ b, (Value.slice K2 ks.length k2).ownBlock = some b → ((a2 ≤ b ∧ b < b2) ∨ N ≤ b) := fun b e => h6 b e
  have hh1 : ∀ b, b < w.heap.size → (Value.slice K2 ks.length k2).ownBlock ≠ some b → w'.heap[b]? = w.heap[b]? := fun b hb hn => by
    rw [hg.block b (by simp; omega) (fun e => hn e.symm)]
    exact Below.heap_alloc w o b hb
  have hgX : g ≠ X := by
    rcases hat with e | e
    · have := hob g e; omega
    · omega
  have hh : ∀ b, b ≠ X → (w'.setCell ⟨X, 5, none⟩ (.slice (some ⟨g, 0, none⟩) (ks.length + 1) cap)).heap[b]? = w'.heap[b]? := fun b hb => Below.heap_setCell w' ⟨X, 5, none⟩ _ b hb
  have hne : ∀ b, b < N → (b < a2 ∨ b2 ≤ b) → (Value.slice K2 ks.length k2).ownBlock ≠ some b := fun b hb1 hb2 e => by have := hob b e; omega
  have hz2 : (w'.setCell ⟨X, 5, none⟩ (.slice (some ⟨g, 0, none⟩) (ks.length + 1) cap)).heap.size = w'.heap.size := by simp [World.setCell]
  have elen : (ks ++ [y]).length = ks.length + 1 := by simp
  refine ⟨⟨k, hk, sd, ?_⟩, ?_, ?_, ?_, ?_, ?_, by rw [hz2]; omega, h8, h9, ⟨by rw [elen]; omega, fun r hr => ?_⟩, ⟨hg.os.trans h11.os, hg.tape.trans h11.tape, hg.output.trans h11.output, by rw [hz2]; have := h11.size; omega, fun b hb hn => ?_⟩⟩
  · have := h11.size
    exact ((hh p (by omega)).trans (hh1 p (by omega) (hne p (by omega) (by omega)))).trans hsb
  · have hb : Blk w' X 32 _ := (hh1 X hXl (hne X (by omega) (by omega))).trans h2
    have := hb.set_ 5 (.slice (some ⟨g, 0, none⟩) (ks.length + 1) cap)
    rw [elen]
    simpa only [List.setIfInBounds_toArray, List.set_cons_zero, List.set_cons_succ] using this
  · exact RowR.keep h3 (fun b q1 q2 => (hh b (by omega)).trans (hh1 b (by omega) (hne b (by omega) (by omega))))
  · exact h4.keep (fun b q1 q2 => (hh b (by omega)).trans (hh1 b (by omega) (hne b (by omega) (by omega))))
  · rw [elen]
    exact own_same hr (fun b hb => hh b (by simp [Value.ownBlock] at hb; omega))
  · intro b hb
    rw [elen] at hb
    have e : g = b := by simpa [Value.ownBlock] using hb
    subst e
    rcases hat with e | e
    · exact hob g e
    · right; omega
  · rcases List.mem_append.1 hr with hr | hr
    · exact h10.2 r hr
    · obtain rfl : r = y := by simpa using hr
      exact hy
  · have := h11.size
    rw [hh b (by omega), hh1 b (by omega) (hne b (by omega) (by omega))]
    exact h11.block b hb hn
theorem DKey.fin (h : DKey w0 w p X N A n c K d ks A2 c2 F2 f2 K2 k2 a1 b1 a2 b2 a3 b3) : DFin w0 w p X ⟨d.use, d.scr, d.files, ks⟩ A2 c2 F2 f2 K2 k2 := by
  obtain ⟨-, h2, h3, h4, h5, h6, h7, h8, h9, h10, h11⟩ := h
  exact ⟨h2, ⟨A2, c2, F2, f2, K2, k2, rfl, RowR.more h3 (by omega) (by omega), FilesR.more h4 (by omega) (by omega), own_reads h5 (fun g e => (h5.lt g e).2)⟩, by omega, ⟨h9.small.1, h9.small.2.1, ⟨by have := h10.1; show ks.length ≤ _; omega, fun r hr => by have := h10.2 r hr; omega⟩⟩, h11⟩
end

end Go.Proofs.YtmeholhmadeehaaGreatDoor

/- l31Devices of the reference walked. -/
namespace Go.Proofs.YtmeholhmadeehaaGreatDoor
open Go.RowKit

def fourKeys : List ByteArray := [⟨#[121, 101, 115]⟩, ⟨#[]⟩, ⟨#[97, 32, 108, 111, 110, 103, 32, 108, 105, 110, 101]⟩, ⟨#[55]⟩]
theorem fourKeys_new : newDevP fourKeys = (blankScr, fourKeys, 0) := by kernel_rfl
theorem blank_low : DevLow ⟨0, blankScr, [], fourKeys⟩ where
  rows := by decide
  row := by intro r hr; simp [blankScr] at hr; rw [hr]; decide
  files := by decide
  file := by intro f hf; cases hf
  keys := by decide
  key := by intro r hr; simp [fourKeys] at hr; rcases hr with rfl | rfl | rfl | rfl <;> decide

theorem wrap_i64_in (n : Int) (h1 : -9223372036854775808 ≤ n) (h2 : n ≤ 9223372036854775807) : IntKind.i64.wrap n = n := by
  simp [IntKind.wrap, IntKind.bits, IntKind.signed]
  split <;> omega
theorem DevR.more' {w : World} {lo hi hi' : Nat} {v : Value} {d : Dev} (h : DevR w lo hi v d) (h2 : hi ≤ hi') : DevR w lo hi' v d := by
  obtain ⟨A, c, F, cf, K, ck, e, g1, g2, g3⟩ := h
  exact ⟨A, c, F, cf, K, ck, e, RowR.more g1 (Nat.le_refl _) h2, FilesR.more g2 (Nat.le_refl _) h2, RowR.more g3 (Nat.le_refl _) h2⟩
def fiveNames : List ByteArray := [⟨#[]⟩, ⟨#[65]⟩, ⟨#[76, 79, 71]⟩, ⟨#[66, 50]⟩, ⟨#[90]⟩]
theorem five_lit (W : World) : RowR Value.string ByteArray.empty (W.alloc (.cells #[.string ⟨#[]⟩, .string ⟨#[65]⟩, .string ⟨#[76, 79, 71]⟩, .string ⟨#[66, 50]⟩, .string ⟨#[90]⟩] 9)) W.heap.size (W.heap.size + 1) (some ⟨W.heap.size, 0, none⟩) 5 fiveNames :=
  ⟨rfl, fun _ => ⟨W.heap.size, 0, rfl, Nat.le_refl _, by omega, fun j hj => by
    rw [(Blk.new W 9 _).cell]
    match j, hj with
    | 0, _ => rfl
    | 1, _ => rfl
    | 2, _ => rfl
    | 3, _ => rfl
    | 4, _ => rfl⟩⟩

def threeNames : List ByteArray := [⟨#[65]⟩, ⟨#[90, 90]⟩, ⟨#[49]⟩]
theorem three_lit (W : World) : RowR Value.string ByteArray.empty (W.alloc (.cells #[.string ⟨#[65]⟩, .string ⟨#[90, 90]⟩, .string ⟨#[49]⟩] 9)) W.heap.size (W.heap.size + 1) (some ⟨W.heap.size, 0, none⟩) 3 threeNames :=
  ⟨rfl, fun _ => ⟨W.heap.size, 0, rfl, Nat.le_refl _, by omega, fun j hj => by
    rw [(Blk.new W 9 _).cell]
    match j, hj with
    | 0, _ => rfl
    | 1, _ => rfl
    | 2, _ => rfl⟩⟩
theorem flatR_new (w : World) (x : ByteArray) : FlatR (w.alloc (.cells #[.string x, .slice none 0 0, .string ⟨#[]⟩, .int .i64 0] 55)) (some ⟨w.heap.size, 0, none⟩) [⟨⟨x, [], ⟨#[]⟩, 0⟩, none, 0⟩] :=
  .inr ⟨w.heap.size, 0, rfl, fun j u hj => by
    rw [(Blk.new w 55 _).cell, Nat.zero_add]
    rw [show flat [(⟨⟨x, [], ⟨#[]⟩, 0⟩, none, 0⟩ : Fx)] = [.string x, .slice none 0 0, .string ⟨#[]⟩, .int .i64 0] from rfl] at hj
    rw [← hj]; simp⟩
def keysAt (w : World) (X : Nat) : Nat := match w.cell? ⟨X, 5, none⟩ with | some (.slice _ n _) => n | _ => 0

set_option maxHeartbeats 16000000 in
set_option maxRecDepth 100000 in
theorem l31Devices_any (p lo hi : Nat) (A : Option Addr) (n c k : Nat) (w : World) (h : SrcB w p A n c k) (hb : BytesR w lo hi A n) (hhi : hi ≤ w.heap.size) (hk : k ≤ 600000000) (hn : n ≤ 1048576) (hp : hi ≤ p ∨ p < lo) :
    Calls Tryz.prog 59 #[.pointer (some ⟨p, 0, none⟩)] w fun e w' => ∃ v d, e = .returned v ∧ DevR w' w.heap.size w'.heap.size v d ∧ DevSmall d ∧ Moved p w w' := by
  have hpl := h.lt
  have HS := Lib.hid h; have HB := Lib.hid hb
  have HPK := Lib.hid (fun W k' m (h : SrcB W p A n c k') h2 (h3 : k' ≤ 900000000) h4 => pick_any p lo hi A n c k' m W h h2 h3 hn hp h4)
  have HR := Lib.hid (Blk.new w 32 #[.int .i64 0, .int .i64 0, .int .i64 0, .slice none 0 0, .slice none 0 0, .slice none 0 0])
  have HND := Lib.hid (fun W c lo hi A ha hhi => specNewDevices_any A c lo hi fourKeys W ha hhi (by decide) (by intro x hx; simp [fourKeys] at hx; rcases hx with rfl | rfl | rfl | rfl <;> decide))
  rw [fourKeys_new] at HND
  clear h hb
  go_enter Tryz.func59, Tryz.ntmps59
  have HLIT := Lib.hid (show ∀ W : World, StrR (W.alloc (.cells #[.string ⟨#[121, 101, 115]⟩, .string ⟨#[]⟩, .string ⟨#[97, 32, 108, 111, 110, 103, 32, 108, 105, 110, 101]⟩, .string ⟨#[55]⟩] 9)) W.heap.size (W.heap.size + 1) (some ⟨W.heap.size, 0, none⟩) fourKeys.length fourKeys from fun W =>
    ⟨rfl, fun _ => ⟨W.heap.size, 0, rfl, Nat.le_refl _, by omega, fun j hj => by
      rw [(Blk.new W 9 _).cell]
      have hj' : j < 4 := hj
      match j, hj' with
      | 0, _ => rfl
      | 1, _ => rfl
      | 2, _ => rfl
      | 3, _ => rfl⟩⟩)
  go_wp2_with fail
  have ez : ((w.alloc (.cells #[.int .i64 0, .int .i64 0, .int .i64 0, .slice none 0 0, .slice none 0 0, .slice none 0 0] 32))).heap.size = w.heap.size + 1 := by simp
  have HL0 := Lib.hid (HLIT.out (w.alloc (.cells #[.int .i64 0, .int .i64 0, .int .i64 0, .slice none 0 0, .slice none 0 0, .slice none 0 0] 32)))
  rw [ez] at HL0
  have HBA := Lib.hid (((Below.refl w.heap.size w).alloc (Nat.le_refl _) (.cells #[.int .i64 0, .int .i64 0, .int .i64 0, .slice none 0 0, .slice none 0 0, .slice none 0 0] 32)).alloc (by simp) (.cells #[.string ⟨#[121, 101, 115]⟩, .string ⟨#[]⟩, .string ⟨#[97, 32, 108, 111, 110, 103, 32, 108, 105, 110, 101]⟩, .string ⟨#[55]⟩] 9))
  have HRA := Lib.hid (HR.out.alloc (.cells #[.string ⟨#[121, 101, 115]⟩, .string ⟨#[]⟩, .string ⟨#[97, 32, 108, 111, 110, 103, 32, 108, 105, 110, 101]⟩, .string ⟨#[55]⟩] 9))
  have hza : ((w.alloc (.cells #[.int .i64 0, .int .i64 0, .int .i64 0, .slice none 0 0, .slice none 0 0, .slice none 0 0] 32)).alloc (.cells #[.string ⟨#[121, 101, 115]⟩, .string ⟨#[]⟩, .string ⟨#[97, 32, 108, 111, 110, 103, 32, 108, 105, 110, 101]⟩, .string ⟨#[55]⟩] 9)).heap.size = w.heap.size + 1 + 1 := by simp
  clear HLIT ez HR
  generalize (w.alloc (.cells #[.int .i64 0, .int .i64 0, .int .i64 0, .slice none 0 0, .slice none 0 0, .slice none 0 0] 32)).alloc (.cells #[.string ⟨#[121, 101, 115]⟩, .string ⟨#[]⟩, .string ⟨#[97, 32, 108, 111, 110, 103, 32, 108, 105, 110, 101]⟩, .string ⟨#[55]⟩] 9) = wa at *
  have hza1 : w.heap.size + 1 + 1 ≤ wa.heap.size := by omega
  clear hza
  refine (HND.out wa 4 _ _ _ HL0.out (by omega)).mono ?_
  rintro e1 w1 ⟨v1, rfl, ho1, hb1⟩
  have s1 := hb1.size
  have hx1 := ho1.devX
  have HLW := Lib.hid blank_low
  generalize (⟨0, blankScr, [], fourKeys⟩ : Dev) = D0 at *
  obtain ⟨A2, c2, F2, f2, K2, k2, _, _, _, _, _, _, _, rfl, _⟩ := id hx1
  have HX1 := Lib.hid hx1
  have HR1 := Lib.hid (HRA.out.below hb1 (by omega))
  have HB1 := Lib.hid (HBA.out.trans (hb1.mono (by omega)))
  clear ho1 hx1 hb1 HL0 HBA HRA HND
  go_upto_region 2 with fail
  have HD1 := Lib.hid (show DLoop w (w1.alloc (.cells (devCs D0 A2 c2 F2 f2 K2 k2) 32)) p w1.heap.size A n c k D0 A2 c2 F2 f2 K2 k2 wa.heap.size w1.heap.size from
    ⟨⟨k, Nat.le_refl _, by obtain ⟨sd, hs⟩ := HS.out; exact ⟨sd, (hs.below (HB1.out) hpl).alloc _⟩⟩, Blk.new _ _ _, (loc_devX wa.heap.size w1.heap.size _ _) w1 _ (fun b _ h2 => Below.heap_alloc w1 _ b h2) HX1.out, by simp, .inl (Nat.le_refl _), by omega, by omega, HLW.out, Moved.of_below (HB1.out.alloc (by omega) _)⟩)
  have HR2 := Lib.hid (HR1.out.alloc (.cells (devCs D0 A2 c2 F2 f2 K2 k2) 32))
  have hz1 : w.heap.size + 1 + 1 ≤ w1.heap.size := by omega
  change Code.wp _ _ _ _ (w1.alloc (.cells (devCs D0 A2 c2 F2 f2 K2 k2) 32))
  have hz2 : w1.heap.size + 1 ≤ (w1.alloc (.cells (devCs D0 A2 c2 F2 f2 K2 k2) 32)).heap.size := by simp
  clear HX1 HB1 HR1 HLW HS
  generalize w1.alloc (.cells (devCs D0 A2 c2 F2 f2 K2 k2) 32) = w2 at *
  generalize w1.heap.size = X at *
  obtain ⟨q2, hq2, hs2⟩ := HD1.out.src
  have HP2 := Lib.hid (HPK.out w2 q2 9 hs2 (HD1.out.bytes HB.out hhi hp) (by omega) (by omega))
  clear hs2
  go_wp2_with fail
  refine HP2.out.mono ?_
  rintro e3 w3 ⟨r, hr, -, rfl, q3, hq31, hq32, hs3, ht3⟩
  have hr9 := hr (by omega)
  have HD3 := Lib.hid (HD1.out.moved (K' := k + 2) ht3.moved hpl ⟨q3, by omega, hs3⟩)
  have HR3 := Lib.hid (show Blk w3 w.heap.size 32 #[.int .i64 0, .int .i64 0, .int .i64 0, .slice none 0 0, .slice none 0 0, .slice none 0 0] from (ht3.block _ (by omega)).trans HR2.out)
  have hz3 : X + 1 ≤ w3.heap.size := by rw [ht3.size]; exact hz2
  clear HP2 HD1 HR2 hs3 ht3 hr hz2
  go_wp2_with fail
  go_loopw [5] (fun kk wr => ∃ j : Nat, j ≤ 8 ∧ kk = .int .i64 j ∧ ∃ (d : Dev) (A2 : Option Addr) (c2 : Nat) (F2 : Option Addr) (f2 : Nat) (K2 : Option Addr) (k2 l2 h2 : Nat), DLoop w wr p X A n c (k + 2 + 100 * (8 - j)) d A2 c2 F2 f2 K2 k2 l2 h2 ∧ Blk wr w.heap.size 32 #[.int .i64 0, .int .i64 0, .int .i64 0, .slice none 0 0, .slice none 0 0, .slice none 0 0] ∧ w.heap.size + 1 ≤ l2) (fun kk _ => (intOf kk).toNat)
  case atStart =>
    have h3 := HD3.out
    exact ⟨r, by omega, rfl, D0, A2, c2, F2, f2, K2, k2, _, _, ⟨(by obtain ⟨q, hq, hs⟩ := h3.src; exact ⟨q, by omega, hs⟩), h3.box, h3.dev, h3.top, h3.far, h3.lop, h3.px, h3.low, h3.mov⟩, HR3.out, by omega⟩
  case round =>
    clear HD3 HR3
    obtain ⟨j, hj, rfl, d, A2, c2, F2, f2, K2, k2, l2, h2, hd, hr, hl2⟩ := hrel
    have HD := Lib.hid hd; have HR := Lib.hid hr
    clear hd hr
    by_cases h0 : 0 < j
    · have f := HD.out.box.cell
      have HD4 := Lib.hid (HD.out.alloc hpl (.cells (devCs d A2 c2 F2 f2 K2 k2) 32))
      have HY4 := Lib.hid (Blk.new wr 32 (devCs d A2 c2 F2 f2 K2 k2))
      have HR4 := Lib.hid (HR.out.alloc (.cells (devCs d A2 c2 F2 f2 K2 k2) 32))
      have hX := HD.out.box.lt; have htp := HD.out.top
      go_upto_region 6 with fail
      change Code.wp _ _ _ _ (wr.alloc (.cells (devCs d A2 c2 F2 f2 K2 k2) 32))
      have hz4 : wr.heap.size + 1 ≤ (wr.alloc (.cells (devCs d A2 c2 F2 f2 K2 k2) 32)).heap.size := by simp
      clear f HD HR
      generalize wr.alloc (.cells (devCs d A2 c2 F2 f2 K2 k2) 32) = w4 at *
      generalize wr.heap.size = Y at *
      obtain ⟨q4, hq4, hs4⟩ := HD4.out.src
      have HP4 := Lib.hid (HPK.out w4 q4 4 hs4 (HD4.out.bytes HB.out hhi hp) (by omega) (by omega))
      clear hs4
      go_wp2_with fail
      refine HP4.out.mono ?_
      rintro e5 w5 ⟨r5, hr5, -, rfl, q5, hq51, hq52, hs5, ht5⟩
      have hr5' := hr5 (by omega)
      have HD5 := Lib.hid (HD4.out.moved (K' := k + 2 + 100 * (8 - j) + 2) ht5.moved hpl ⟨q5, by omega, hs5⟩)
      have hlp := HD5.out.lop; have hxp := HD5.out.px
      have HR5 := Lib.hid (show Blk w5 w.heap.size 32 #[.int .i64 0, .int .i64 0, .int .i64 0, .slice none 0 0, .slice none 0 0, .slice none 0 0] from (ht5.block _ (by omega)).trans HR4.out)
      have HY5 := Lib.hid (show Blk w5 Y 32 (devCs d A2 c2 F2 f2 K2 k2) from (ht5.block _ (by omega)).trans HY4.out)
      have hz5 : Y + 1 ≤ w5.heap.size := by rw [ht5.size]; exact hz4
      clear HP4 HD4 HR4 HY4 hs5 ht5 hr5 hz4
      have hrc : r5 = 0 ∨ r5 = 1 ∨ 2 ≤ r5 := by omega
      rcases hrc with rfl | rfl | hr2
      · go_upto_region 9 with fail
        refine AnyT.region (fun _ => false) (fun W => ∀ i, W.cell? ⟨X, i, none⟩ = (devCs d A2 c2 F2 f2 K2 k2)[i]?) (by kernel_rfl) (HD5.out.drew hpl).box.cell (fun hHeld => ?_)
        have HD6 := Lib.hid (HD5.out.drew hpl); have HR6 := Lib.hid (show Blk w5.drew w.heap.size 32 #[.int .i64 0, .int .i64 0, .int .i64 0, .slice none 0 0, .slice none 0 0, .slice none 0 0] from HR5.out.drewN 1); have HY6 := Lib.hid (show Blk w5.drew Y 32 (devCs d A2 c2 F2 f2 K2 k2) from HY5.out.drewN 1)
        have hz6 : Y + 1 ≤ w5.drew.heap.size := hz5
        clear HD5 HR5 HY5 hz5
        generalize w5.drew = w6 at *
        ((refine AnyT.takeAny 1 33 ?_ rfl (by kernel_rfl) (by kernel_rfl) (by kernel_rfl) rfl rfl (fun _ _ _ _ h => h) rfl ?_ (by assumption) ?_); rotate_left; (intro w; go_simp; (try (with_reducible rfl))); simp only [Act.put, List.setIfInBounds_toArray, List.set_cons_zero, List.set_cons_succ])
        ((refine AnyT.take 0 32 ?_ rfl (by kernel_rfl) (by kernel_rfl) (by kernel_rfl) (by kernel_rfl) rfl (by kernel_rfl) rfl (fun _ _ _ _ h => h) rfl ?_ (by assumption) ?_); rotate_left; (intro w hSw; (try dsimp only at hSw); go_simp; (try (with_reducible rfl))); simp only [Act.put, List.setIfInBounds_toArray, List.set_cons_zero, List.set_cons_succ])
        ((refine AnyT.one (i := 2) (by kernel_rfl) rfl (fun K hK => ?_)))
        go_simp
        have hL6 := five_lit w6
        have HD7 := Lib.hid (HD6.out.alloc hpl (.cells #[.string ⟨#[]⟩, .string ⟨#[65]⟩, .string ⟨#[76, 79, 71]⟩, .string ⟨#[66, 50]⟩, .string ⟨#[90]⟩] 9))
        have HR7 := Lib.hid (HR6.out.alloc (.cells #[.string ⟨#[]⟩, .string ⟨#[65]⟩, .string ⟨#[76, 79, 71]⟩, .string ⟨#[66, 50]⟩, .string ⟨#[90]⟩] 9))
        have HY7 := Lib.hid (HY6.out.alloc (.cells #[.string ⟨#[]⟩, .string ⟨#[65]⟩, .string ⟨#[76, 79, 71]⟩, .string ⟨#[66, 50]⟩, .string ⟨#[90]⟩] 9))
        have hz7 : w6.heap.size + 1 ≤ (w6.alloc (.cells #[.string ⟨#[]⟩, .string ⟨#[65]⟩, .string ⟨#[76, 79, 71]⟩, .string ⟨#[66, 50]⟩, .string ⟨#[90]⟩] 9)).heap.size := by simp
        refine hK.out _ _ HD7.out.box.cell (fun hHeld => ?_)
        clear hK K HD6 HR6 HY6
        (try simp only [Act.put, List.setIfInBounds_toArray, List.set_cons_zero, List.set_cons_succ])
        have HL7 := Lib.hid hL6; clear hL6
        generalize w6.alloc (.cells #[.string ⟨#[]⟩, .string ⟨#[65]⟩, .string ⟨#[76, 79, 71]⟩, .string ⟨#[66, 50]⟩, .string ⟨#[90]⟩] 9) = w7 at *
        generalize w6.heap.size = Z at *
        obtain ⟨q7, hq7, hs7⟩ := HD7.out.src
        have HT7 := Lib.hid (srcText_any p lo hi A n c q7 Z (Z + 1) 5 5 (some ⟨Z, 0, none⟩) fiveNames w7 hs7 (HD7.out.bytes HB.out hhi hp) (by omega) hn hp HL7.out (by decide) (by decide) (.inr (by omega)))
        clear hs7 HL7
        ((refine AnyT.one (i := 3) (by kernel_rfl) rfl (fun K hK => ?_)))
        go_simp
        refine HT7.out.mono ?_
        rintro e8 w8 ⟨x, hx, rfl, q8, hq81, hq82, hs8, ht8⟩
        have hxs : x.size ≤ 1048576 := by simp [fiveNames] at hx; rcases hx with rfl | rfl | rfl | rfl | rfl <;> decide
        go_simp
        have HD8 := Lib.hid (HD7.out.moved (K' := k + 2 + 100 * (8 - j) + 4) ht8.moved hpl ⟨q8, by omega, hs8⟩)
        have HR8 := Lib.hid (show Blk w8 w.heap.size 32 #[.int .i64 0, .int .i64 0, .int .i64 0, .slice none 0 0, .slice none 0 0, .slice none 0 0] from (ht8.block _ (by omega)).trans HR7.out)
        have HY8 := Lib.hid (show Blk w8 Y 32 (devCs d A2 c2 F2 f2 K2 k2) from (ht8.block _ (by omega)).trans HY7.out)
        have hz8 : Y + 1 ≤ w8.heap.size := by rw [ht8.size]; omega
        refine hK.out _ _ HD8.out.box.cell (fun hHeld => ?_)
        clear hK K HD7 HR7 HY7 HT7 hs8 ht8 hx
        (try simp only [Act.put, List.setIfInBounds_toArray, List.set_cons_zero, List.set_cons_succ])
        have HU8 := Lib.hid (specUseDevice_x d x _ l2 h2 w8 HD8.out.dev.reads HD8.out.top HD8.out.low.small hxs)
        have HLW := Lib.hid (useP_low d x)
        generalize useP d x = T at *
        obtain ⟨d9, code⟩ := T
        dsimp only at HU8
        ((refine AnyT.one (i := 4) (by kernel_rfl) rfl (fun K hK => ?_)))
        go_simp
        refine HU8.out.mono ?_
        rintro e9 w9 ⟨v9, rfl, hr9, hx9, hb9⟩
        obtain ⟨A9, c9, F9, f9, K9, k9, rfl, _⟩ := id hr9
        go_simp
        have HD9 := Lib.hid (HD8.out.below hb9 hpl)
        have HR9 := Lib.hid (HR8.out.below hb9 (by omega)); have HY9 := Lib.hid (HY8.out.below hb9 (by omega))
        have hs9 := hb9.size
        have HX9 := Lib.hid hx9
        refine hK.out _ _ HD9.out.box.cell (fun hHeld => ?_)
        clear hK K HD8 HR8 HY8 HU8 hr9 hx9 hb9
        (try simp only [Act.put, List.setIfInBounds_toArray, List.set_cons_zero, List.set_cons_succ])
        ((refine AnyT.takeAny 5 31 ?_ rfl (by kernel_rfl) (by kernel_rfl) (by kernel_rfl) rfl rfl (fun _ _ _ _ h => h) rfl ?_ (by assumption) ?_); rotate_left; (intro w; go_simp; (try (with_reducible rfl))); simp only [Act.put, List.setIfInBounds_toArray, List.set_cons_zero, List.set_cons_succ])
        ((refine AnyT.takeAny 6 37 ?_ rfl (by kernel_rfl) (by kernel_rfl) (by kernel_rfl) rfl rfl (fun _ _ _ _ h => h) rfl ?_ (by assumption) ?_); rotate_left; (intro w; go_simp; (try (with_reducible rfl))); simp only [Act.put, List.setIfInBounds_toArray, List.set_cons_zero, List.set_cons_succ])
        ((refine AnyT.takeAny 7 38 ?_ rfl (by kernel_rfl) (by kernel_rfl) (by kernel_rfl) rfl rfl (fun _ _ _ _ h => h) rfl ?_ (by assumption) ?_); rotate_left; (intro w; go_simp; (try (with_reducible rfl))); simp only [Act.put, List.setIfInBounds_toArray, List.set_cons_zero, List.set_cons_succ])
        have hfar := HD9.out.far; have htop := HD9.out.top
        have g9 := HY9.out.cell; have zz9 := HY9.out.frozen
        ((refine AnyT.one (i := 8) (by kernel_rfl) rfl (fun K hK => ?_)))
        go_simp
        have HD10 := Lib.hid (HD9.out.set6 hpl (Y := Y) (by omega) (.inr (by omega)) (by omega) (.int .i64 d9.use) (.int .i64 d9.scr.row) (.int .i64 d9.scr.col) (.slice A9 d9.scr.rows.length c9) (.slice F9 d9.files.length f9) (.slice K9 d9.keys.length k9))
        have HY10 := Lib.hid (Blk.dev (d' := d9) (A' := A9) (c' := c9) (F' := F9) (f' := f9) (K' := K9) (k' := k9) HY9.out)
        have HR10 := Lib.hid ((((((HR9.out.far (p := ⟨Y, 0, none⟩) (by simp; omega) (.int .i64 d9.use)).far (p := ⟨Y, 1, none⟩) (by simp; omega) (.int .i64 d9.scr.row)).far (p := ⟨Y, 2, none⟩) (by simp; omega) (.int .i64 d9.scr.col)).far (p := ⟨Y, 3, none⟩) (by simp; omega) (.slice A9 d9.scr.rows.length c9)).far (p := ⟨Y, 4, none⟩) (by simp; omega) (.slice F9 d9.files.length f9)).far (p := ⟨Y, 5, none⟩) (by simp; omega) (.slice K9 d9.keys.length k9))
        have HX10 := Lib.hid (fun hc => loc_devX w8.heap.size w9.heap.size _ d9 w9 ((((((w9.setCell ⟨Y, 0, none⟩ (.int .i64 d9.use)).setCell ⟨Y, 1, none⟩ (.int .i64 d9.scr.row)).setCell ⟨Y, 2, none⟩ (.int .i64 d9.scr.col)).setCell ⟨Y, 3, none⟩ (.slice A9 d9.scr.rows.length c9)).setCell ⟨Y, 4, none⟩ (.slice F9 d9.files.length f9)).setCell ⟨Y, 5, none⟩ (.slice K9 d9.keys.length k9)) (fun b q1 q2 => by iterate 6 (rw [Below.heap_setCell _ _ _ b (by simp; omega)])) (HX9.out hc))
        have hz10 : w9.heap.size ≤ ((((((w9.setCell ⟨Y, 0, none⟩ (.int .i64 d9.use)).setCell ⟨Y, 1, none⟩ (.int .i64 d9.scr.row)).setCell ⟨Y, 2, none⟩ (.int .i64 d9.scr.col)).setCell ⟨Y, 3, none⟩ (.slice A9 d9.scr.rows.length c9)).setCell ⟨Y, 4, none⟩ (.slice F9 d9.files.length f9)).setCell ⟨Y, 5, none⟩ (.slice K9 d9.keys.length k9)).heap.size := by simp [World.setCell]
        refine hK.out _ _ HD10.out.box.cell (fun hHeld => ?_)
        clear hK K g9 zz9 HD9 HY9 HR9 HX9
        (try simp only [Act.put, List.setIfInBounds_toArray, List.set_cons_zero, List.set_cons_succ])
        generalize ((((((w9.setCell ⟨Y, 0, none⟩ (.int .i64 d9.use)).setCell ⟨Y, 1, none⟩ (.int .i64 d9.scr.row)).setCell ⟨Y, 2, none⟩ (.int .i64 d9.scr.col)).setCell ⟨Y, 3, none⟩ (.slice A9 d9.scr.rows.length c9)).setCell ⟨Y, 4, none⟩ (.slice F9 d9.files.length f9)).setCell ⟨Y, 5, none⟩ (.slice K9 d9.keys.length k9)) = w10 at *
        ((refine AnyT.takeAny 9 7 ?_ rfl (by kernel_rfl) (by kernel_rfl) (by kernel_rfl) rfl rfl (fun _ _ _ _ h => h) rfl ?_ (by assumption) ?_); rotate_left; (intro w; go_simp; (try (with_reducible rfl))); simp only [Act.put, List.setIfInBounds_toArray, List.set_cons_zero, List.set_cons_succ])
        refine AnyT.done (by kernel_rfl) ?_ _
        clear hHeld
        have gx := HD10.out.box.cell; have zx := HD10.out.box.frozen
        by_cases hc : code = 0
        · subst hc
          have gy := HY10.out.cell
          go_wp2_with fail
          go_roundw
          case rel =>
            have h10 := HD10.out.take hpl (HX10.out rfl) HLW.out hz10 (.inr (by omega)) (by omega)
            refine ⟨j - 1, by omega, by go_num, d9, A9, c9, F9, f9, K9, k9, _, _, ⟨(by obtain ⟨q, hq, hs⟩ := h10.src; exact ⟨q, by omega, hs⟩), h10.box, h10.dev, h10.top, h10.far, h10.lop, h10.px, h10.low, h10.mov⟩, ?_, by omega⟩
            exact (((((HR10.out.far (p := ⟨X, 0, none⟩) (by simp; omega) _).far (p := ⟨X, 1, none⟩) (by simp; omega) _).far (p := ⟨X, 2, none⟩) (by simp; omega) _).far (p := ⟨X, 3, none⟩) (by simp; omega) _).far (p := ⟨X, 4, none⟩) (by simp; omega) _).far (p := ⟨X, 5, none⟩) (by simp; omega) _
          case measure => simp [intOf]; omega
        · have hc' : (code == 0) = false := by simp [hc]
          have HC := Lib.hid hc; clear hc
          go_wp2_with fail
          go_roundw
          case rel =>
            have h10 := HD10.out
            exact ⟨j - 1, by omega, by go_num, d, A2, c2, F2, f2, K2, k2, _, _, ⟨(by obtain ⟨q, hq, hs⟩ := h10.src; exact ⟨q, by omega, hs⟩), h10.box, h10.dev, h10.top, h10.far, h10.lop, h10.px, h10.low, h10.mov⟩, HR10.out, by omega⟩
          case measure => simp [intOf]; omega
      · go_upto_region 11 with fail
        refine AnyT.region (fun _ => false) (fun W => ∀ i, W.cell? ⟨X, i, none⟩ = (devCs d A2 c2 F2 f2 K2 k2)[i]?) (by kernel_rfl) (HD5.out.drew hpl).box.cell (fun hHeld => ?_)
        have HD6 := Lib.hid (HD5.out.drew hpl); have HR6 := Lib.hid (show Blk w5.drew w.heap.size 32 #[.int .i64 0, .int .i64 0, .int .i64 0, .slice none 0 0, .slice none 0 0, .slice none 0 0] from HR5.out.drewN 1); have HY6 := Lib.hid (show Blk w5.drew Y 32 (devCs d A2 c2 F2 f2 K2 k2) from HY5.out.drewN 1)
        have hz6 : Y + 1 ≤ w5.drew.heap.size := hz5
        clear HD5 HR5 HY5 hz5
        generalize w5.drew = w6 at *
        ((refine AnyT.takeAny 1 43 ?_ rfl (by kernel_rfl) (by kernel_rfl) (by kernel_rfl) rfl rfl (fun _ _ _ _ h => h) rfl ?_ (by assumption) ?_); rotate_left; (intro w; go_simp; (try (with_reducible rfl))); simp only [Act.put, List.setIfInBounds_toArray, List.set_cons_zero, List.set_cons_succ])
        ((refine AnyT.take 0 42 ?_ rfl (by kernel_rfl) (by kernel_rfl) (by kernel_rfl) (by kernel_rfl) rfl (by kernel_rfl) rfl (fun _ _ _ _ h => h) rfl ?_ (by assumption) ?_); rotate_left; (intro w hSw; (try dsimp only at hSw); go_simp; (try (with_reducible rfl))); simp only [Act.put, List.setIfInBounds_toArray, List.set_cons_zero, List.set_cons_succ])
        obtain ⟨q7, hq7, hs7⟩ := HD6.out.src
        have HT7 := Lib.hid (HPK.out w6 q7 4 hs7 (HD6.out.bytes HB.out hhi hp) (by omega) (by omega))
        clear hs7
        ((refine AnyT.one (i := 2) (by kernel_rfl) rfl (fun K hK => ?_)))
        go_simp
        refine HT7.out.mono ?_
        rintro e8 w8 ⟨r8, hr8, hr8', rfl, q8, hq81, hq82, hs8, ht8⟩
        go_simp
        have HD8 := Lib.hid (HD6.out.moved (K' := k + 2 + 100 * (8 - j) + 4) ht8.moved hpl ⟨q8, by omega, hs8⟩)
        have HR8 := Lib.hid (show Blk w8 w.heap.size 32 #[.int .i64 0, .int .i64 0, .int .i64 0, .slice none 0 0, .slice none 0 0, .slice none 0 0] from (ht8.block _ (by omega)).trans HR6.out)
        have HY8 := Lib.hid (show Blk w8 Y 32 (devCs d A2 c2 F2 f2 K2 k2) from (ht8.block _ (by omega)).trans HY6.out)
        have hz8 : Y + 1 ≤ w8.heap.size := by rw [ht8.size]; omega
        refine hK.out _ _ HD8.out.box.cell (fun hHeld => ?_)
        clear hK K HD6 HR6 HY6 HT7 hs8 ht8 hr8
        (try simp only [Act.put, List.setIfInBounds_toArray, List.set_cons_zero, List.set_cons_succ])
        ((refine AnyT.takeAny 3 45 ?_ rfl (by kernel_rfl) (by kernel_rfl) (by kernel_rfl) rfl rfl (fun _ _ _ _ h => h) rfl ?_ (by assumption) ?_); rotate_left; (intro w; go_simp; (try (with_reducible rfl))); simp only [Act.put, List.setIfInBounds_toArray, List.set_cons_zero, List.set_cons_succ])
        have HU8 := Lib.hid (specReadFrom_x d ((r8 : Int) - 1) _ l2 h2 w8 HD8.out.dev.cap HD8.out.dev.reads HD8.out.top HD8.out.low.small)
        have HLW := Lib.hid (readP_low d ((r8 : Int) - 1))
        generalize readP d ((r8 : Int) - 1) = T at *
        obtain ⟨d9, tx, code⟩ := T
        dsimp only at HU8 HLW
        ((refine AnyT.one (i := 4) (by kernel_rfl) rfl (fun K hK => ?_)))
        go_simp
        rw [show IntKind.i64.wrap ((r8 : Int) - 1) = (r8 : Int) - 1 from wrap_i64_in _ (by omega) (by omega)]
        refine HU8.out.mono ?_
        rintro e9 w9 ⟨v9, rfl, ⟨hr9, hx9⟩, hb9⟩
        obtain ⟨A9, c9, F9, f9, K9, k9, rfl, _⟩ := id hr9
        go_simp
        have HD9 := Lib.hid (HD8.out.below hb9 hpl)
        have HR9 := Lib.hid (HR8.out.below hb9 (by omega)); have HY9 := Lib.hid (HY8.out.below hb9 (by omega))
        have hs9 := hb9.size
        have HX9 := Lib.hid hx9
        refine hK.out _ _ HD9.out.box.cell (fun hHeld => ?_)
        clear hK K HD8 HR8 HY8 HU8 hr9 hx9 hb9
        (try simp only [Act.put, List.setIfInBounds_toArray, List.set_cons_zero, List.set_cons_succ])
        ((refine AnyT.takeAny 5 41 ?_ rfl (by kernel_rfl) (by kernel_rfl) (by kernel_rfl) rfl rfl (fun _ _ _ _ h => h) rfl ?_ (by assumption) ?_); rotate_left; (intro w; go_simp; (try (with_reducible rfl))); simp only [Act.put, List.setIfInBounds_toArray, List.set_cons_zero, List.set_cons_succ])
        ((refine AnyT.takeAny 6 47 ?_ rfl (by kernel_rfl) (by kernel_rfl) (by kernel_rfl) rfl rfl (fun _ _ _ _ h => h) rfl ?_ (by assumption) ?_); rotate_left; (intro w; go_simp; (try (with_reducible rfl))); simp only [Act.put, List.setIfInBounds_toArray, List.set_cons_zero, List.set_cons_succ])
        ((refine AnyT.takeAny 7 48 ?_ rfl (by kernel_rfl) (by kernel_rfl) (by kernel_rfl) rfl rfl (fun _ _ _ _ h => h) rfl ?_ (by assumption) ?_); rotate_left; (intro w; go_simp; (try (with_reducible rfl))); simp only [Act.put, List.setIfInBounds_toArray, List.set_cons_zero, List.set_cons_succ])
        ((refine AnyT.takeAny 8 49 ?_ rfl (by kernel_rfl) (by kernel_rfl) (by kernel_rfl) rfl rfl (fun _ _ _ _ h => h) rfl ?_ (by assumption) ?_); rotate_left; (intro w; go_simp; (try (with_reducible rfl))); simp only [Act.put, List.setIfInBounds_toArray, List.set_cons_zero, List.set_cons_succ])
        have hfar := HD9.out.far; have htop := HD9.out.top
        have g9 := HY9.out.cell; have zz9 := HY9.out.frozen
        ((refine AnyT.one (i := 9) (by kernel_rfl) rfl (fun K hK => ?_)))
        go_simp
        have HD10 := Lib.hid (HD9.out.set6 hpl (Y := Y) (by omega) (.inr (by omega)) (by omega) (.int .i64 d9.use) (.int .i64 d9.scr.row) (.int .i64 d9.scr.col) (.slice A9 d9.scr.rows.length c9) (.slice F9 d9.files.length f9) (.slice K9 d9.keys.length k9))
        have HY10 := Lib.hid (Blk.dev (d' := d9) (A' := A9) (c' := c9) (F' := F9) (f' := f9) (K' := K9) (k' := k9) HY9.out)
        have HR10 := Lib.hid ((((((HR9.out.far (p := ⟨Y, 0, none⟩) (by simp; omega) (.int .i64 d9.use)).far (p := ⟨Y, 1, none⟩) (by simp; omega) (.int .i64 d9.scr.row)).far (p := ⟨Y, 2, none⟩) (by simp; omega) (.int .i64 d9.scr.col)).far (p := ⟨Y, 3, none⟩) (by simp; omega) (.slice A9 d9.scr.rows.length c9)).far (p := ⟨Y, 4, none⟩) (by simp; omega) (.slice F9 d9.files.length f9)).far (p := ⟨Y, 5, none⟩) (by simp; omega) (.slice K9 d9.keys.length k9))
        have HX10 := Lib.hid (fun hc => loc_devX w8.heap.size w9.heap.size _ d9 w9 ((((((w9.setCell ⟨Y, 0, none⟩ (.int .i64 d9.use)).setCell ⟨Y, 1, none⟩ (.int .i64 d9.scr.row)).setCell ⟨Y, 2, none⟩ (.int .i64 d9.scr.col)).setCell ⟨Y, 3, none⟩ (.slice A9 d9.scr.rows.length c9)).setCell ⟨Y, 4, none⟩ (.slice F9 d9.files.length f9)).setCell ⟨Y, 5, none⟩ (.slice K9 d9.keys.length k9)) (fun b q1 q2 => by iterate 6 (rw [Below.heap_setCell _ _ _ b (by simp; omega)])) (HX9.out hc))
        have hz10 : w9.heap.size ≤ ((((((w9.setCell ⟨Y, 0, none⟩ (.int .i64 d9.use)).setCell ⟨Y, 1, none⟩ (.int .i64 d9.scr.row)).setCell ⟨Y, 2, none⟩ (.int .i64 d9.scr.col)).setCell ⟨Y, 3, none⟩ (.slice A9 d9.scr.rows.length c9)).setCell ⟨Y, 4, none⟩ (.slice F9 d9.files.length f9)).setCell ⟨Y, 5, none⟩ (.slice K9 d9.keys.length k9)).heap.size := by simp [World.setCell]
        refine hK.out _ _ HD10.out.box.cell (fun hHeld => ?_)
        clear hK K g9 zz9 HD9 HY9 HR9 HX9
        (try simp only [Act.put, List.setIfInBounds_toArray, List.set_cons_zero, List.set_cons_succ])
        generalize ((((((w9.setCell ⟨Y, 0, none⟩ (.int .i64 d9.use)).setCell ⟨Y, 1, none⟩ (.int .i64 d9.scr.row)).setCell ⟨Y, 2, none⟩ (.int .i64 d9.scr.col)).setCell ⟨Y, 3, none⟩ (.slice A9 d9.scr.rows.length c9)).setCell ⟨Y, 4, none⟩ (.slice F9 d9.files.length f9)).setCell ⟨Y, 5, none⟩ (.slice K9 d9.keys.length k9)) = w10 at *
        ((refine AnyT.takeAny 10 7 ?_ rfl (by kernel_rfl) (by kernel_rfl) (by kernel_rfl) rfl rfl (fun _ _ _ _ h => h) rfl ?_ (by assumption) ?_); rotate_left; (intro w; go_simp; (try (with_reducible rfl))); simp only [Act.put, List.setIfInBounds_toArray, List.set_cons_zero, List.set_cons_succ])
        refine AnyT.done (by kernel_rfl) ?_ _
        clear hHeld
        have gx := HD10.out.box.cell; have zx := HD10.out.box.frozen
        by_cases hc : code = 0
        · subst hc
          have gy := HY10.out.cell
          go_wp2_with fail
          go_roundw
          case rel =>
            have h10 := HD10.out.take hpl (HX10.out rfl) HLW.out hz10 (.inr (by omega)) (by omega)
            refine ⟨j - 1, by omega, by go_num, d9, A9, c9, F9, f9, K9, k9, _, _, ⟨(by obtain ⟨q, hq, hs⟩ := h10.src; exact ⟨q, by omega, hs⟩), h10.box, h10.dev, h10.top, h10.far, h10.lop, h10.px, h10.low, h10.mov⟩, ?_, by omega⟩
            exact (((((HR10.out.far (p := ⟨X, 0, none⟩) (by simp; omega) _).far (p := ⟨X, 1, none⟩) (by simp; omega) _).far (p := ⟨X, 2, none⟩) (by simp; omega) _).far (p := ⟨X, 3, none⟩) (by simp; omega) _).far (p := ⟨X, 4, none⟩) (by simp; omega) _).far (p := ⟨X, 5, none⟩) (by simp; omega) _
          case measure => simp [intOf]; omega
        · have hc' : (code == 0) = false := by simp [hc]
          have HC := Lib.hid hc; clear hc
          go_wp2_with fail
          go_roundw
          case rel =>
            have h10 := HD10.out
            exact ⟨j - 1, by omega, by go_num, d, A2, c2, F2, f2, K2, k2, _, _, ⟨(by obtain ⟨q, hq, hs⟩ := h10.src; exact ⟨q, by omega, hs⟩), h10.box, h10.dev, h10.top, h10.far, h10.lop, h10.px, h10.low, h10.mov⟩, HR10.out, by omega⟩
          case measure => simp [intOf]; omega
      · have n0 : ((r5 : Int) == 0) = false := by rw [beq_eq_false_iff_ne]; omega
        have n1 : ((r5 : Int) == 1) = false := by rw [beq_eq_false_iff_ne]; omega
        go_upto_region 7 with fail
        refine AnyT.region (fun _ => false) (fun W => ∀ i, W.cell? ⟨X, i, none⟩ = (devCs d A2 c2 F2 f2 K2 k2)[i]?) (by kernel_rfl) (HD5.out.drew hpl).box.cell (fun hHeld => ?_)
        have HD6 := Lib.hid (HD5.out.drew hpl); have HR6 := Lib.hid (show Blk w5.drew w.heap.size 32 #[.int .i64 0, .int .i64 0, .int .i64 0, .slice none 0 0, .slice none 0 0, .slice none 0 0] from HR5.out.drewN 1); have HY6 := Lib.hid (show Blk w5.drew Y 32 (devCs d A2 c2 F2 f2 K2 k2) from HY5.out.drewN 1)
        have hz6 : Y + 1 ≤ w5.drew.heap.size := hz5
        clear HD5 HR5 HY5 hz5
        generalize w5.drew = w6 at *
        ((refine AnyT.takeAny 1 24 ?_ rfl (by kernel_rfl) (by kernel_rfl) (by kernel_rfl) rfl rfl (fun _ _ _ _ h => h) rfl ?_ (by assumption) ?_); rotate_left; (intro w; go_simp; (try (with_reducible rfl))); simp only [Act.put, List.setIfInBounds_toArray, List.set_cons_zero, List.set_cons_succ])
        ((refine AnyT.take 0 23 ?_ rfl (by kernel_rfl) (by kernel_rfl) (by kernel_rfl) (by kernel_rfl) rfl (by kernel_rfl) rfl (fun _ _ _ _ h => h) rfl ?_ (by assumption) ?_); rotate_left; (intro w hSw; (try dsimp only at hSw); go_simp; (try (with_reducible rfl))); simp only [Act.put, List.setIfInBounds_toArray, List.set_cons_zero, List.set_cons_succ])
        obtain ⟨q7, hq7, hs7⟩ := HD6.out.src
        have HT7 := Lib.hid (l31Text_any p lo hi A n c q7 w6 hs7 (HD6.out.bytes HB.out hhi hp) (by omega) (by omega) hn hp)
        clear hs7
        ((refine AnyT.one (i := 2) (by kernel_rfl) rfl (fun K hK => ?_)))
        go_simp
        refine HT7.out.mono ?_
        rintro e8 w8 ⟨x, hxz, rfl, q8, hq81, hs8, ht8⟩
        go_simp
        have HD8 := Lib.hid (HD6.out.moved (K' := k + 2 + 100 * (8 - j) + 24) ht8 hpl ⟨q8, by omega, hs8⟩)
        have HR8 := Lib.hid (show Blk w8 w.heap.size 32 #[.int .i64 0, .int .i64 0, .int .i64 0, .slice none 0 0, .slice none 0 0, .slice none 0 0] from (ht8.block _ (by omega) (by omega)).trans HR6.out)
        have HY8 := Lib.hid (show Blk w8 Y 32 (devCs d A2 c2 F2 f2 K2 k2) from (ht8.block _ (by omega) (by omega)).trans HY6.out)
        have hz8 : Y + 1 ≤ w8.heap.size := by have := ht8.size; omega
        refine hK.out _ _ HD8.out.box.cell (fun hHeld => ?_)
        clear hK K HD6 HR6 HY6 HT7 hs8 ht8
        (try simp only [Act.put, List.setIfInBounds_toArray, List.set_cons_zero, List.set_cons_succ])
        have HU8 := Lib.hid (specWriteTo_x d x _ l2 h2 w8 HD8.out.dev.reads HD8.out.top HD8.out.low.small (by omega))
        have HLW := Lib.hid (writeP_low d x)
        generalize writeP d x = T at *
        obtain ⟨d9, code⟩ := T
        dsimp only at HU8 HLW
        ((refine AnyT.one (i := 3) (by kernel_rfl) rfl (fun K hK => ?_)))
        go_simp
        refine HU8.out.mono ?_
        rintro e9 w9 ⟨v9, rfl, ⟨hr9, hx9⟩, hb9⟩
        obtain ⟨A9, c9, F9, f9, K9, k9, rfl, _⟩ := id hr9
        go_simp
        have HD9 := Lib.hid (HD8.out.below hb9 hpl)
        have HR9 := Lib.hid (HR8.out.below hb9 (by omega)); have HY9 := Lib.hid (HY8.out.below hb9 (by omega))
        have hs9 := hb9.size
        have HX9 := Lib.hid hx9
        refine hK.out _ _ HD9.out.box.cell (fun hHeld => ?_)
        clear hK K HD8 HR8 HY8 HU8 hr9 hx9 hb9
        (try simp only [Act.put, List.setIfInBounds_toArray, List.set_cons_zero, List.set_cons_succ])
        ((refine AnyT.takeAny 4 22 ?_ rfl (by kernel_rfl) (by kernel_rfl) (by kernel_rfl) rfl rfl (fun _ _ _ _ h => h) rfl ?_ (by assumption) ?_); rotate_left; (intro w; go_simp; (try (with_reducible rfl))); simp only [Act.put, List.setIfInBounds_toArray, List.set_cons_zero, List.set_cons_succ])
        ((refine AnyT.takeAny 5 27 ?_ rfl (by kernel_rfl) (by kernel_rfl) (by kernel_rfl) rfl rfl (fun _ _ _ _ h => h) rfl ?_ (by assumption) ?_); rotate_left; (intro w; go_simp; (try (with_reducible rfl))); simp only [Act.put, List.setIfInBounds_toArray, List.set_cons_zero, List.set_cons_succ])
        ((refine AnyT.takeAny 6 28 ?_ rfl (by kernel_rfl) (by kernel_rfl) (by kernel_rfl) rfl rfl (fun _ _ _ _ h => h) rfl ?_ (by assumption) ?_); rotate_left; (intro w; go_simp; (try (with_reducible rfl))); simp only [Act.put, List.setIfInBounds_toArray, List.set_cons_zero, List.set_cons_succ])
        have hfar := HD9.out.far; have htop := HD9.out.top
        have g9 := HY9.out.cell; have zz9 := HY9.out.frozen
        ((refine AnyT.one (i := 7) (by kernel_rfl) rfl (fun K hK => ?_)))
        go_simp
        have HD10 := Lib.hid (HD9.out.set6 hpl (Y := Y) (by omega) (.inr (by omega)) (by omega) (.int .i64 d9.use) (.int .i64 d9.scr.row) (.int .i64 d9.scr.col) (.slice A9 d9.scr.rows.length c9) (.slice F9 d9.files.length f9) (.slice K9 d9.keys.length k9))
        have HY10 := Lib.hid (Blk.dev (d' := d9) (A' := A9) (c' := c9) (F' := F9) (f' := f9) (K' := K9) (k' := k9) HY9.out)
        have HR10 := Lib.hid ((((((HR9.out.far (p := ⟨Y, 0, none⟩) (by simp; omega) (.int .i64 d9.use)).far (p := ⟨Y, 1, none⟩) (by simp; omega) (.int .i64 d9.scr.row)).far (p := ⟨Y, 2, none⟩) (by simp; omega) (.int .i64 d9.scr.col)).far (p := ⟨Y, 3, none⟩) (by simp; omega) (.slice A9 d9.scr.rows.length c9)).far (p := ⟨Y, 4, none⟩) (by simp; omega) (.slice F9 d9.files.length f9)).far (p := ⟨Y, 5, none⟩) (by simp; omega) (.slice K9 d9.keys.length k9))
        have HX10 := Lib.hid (fun hc => loc_devX w8.heap.size w9.heap.size _ d9 w9 ((((((w9.setCell ⟨Y, 0, none⟩ (.int .i64 d9.use)).setCell ⟨Y, 1, none⟩ (.int .i64 d9.scr.row)).setCell ⟨Y, 2, none⟩ (.int .i64 d9.scr.col)).setCell ⟨Y, 3, none⟩ (.slice A9 d9.scr.rows.length c9)).setCell ⟨Y, 4, none⟩ (.slice F9 d9.files.length f9)).setCell ⟨Y, 5, none⟩ (.slice K9 d9.keys.length k9)) (fun b q1 q2 => by iterate 6 (rw [Below.heap_setCell _ _ _ b (by simp; omega)])) (HX9.out hc))
        have hz10 : w9.heap.size ≤ ((((((w9.setCell ⟨Y, 0, none⟩ (.int .i64 d9.use)).setCell ⟨Y, 1, none⟩ (.int .i64 d9.scr.row)).setCell ⟨Y, 2, none⟩ (.int .i64 d9.scr.col)).setCell ⟨Y, 3, none⟩ (.slice A9 d9.scr.rows.length c9)).setCell ⟨Y, 4, none⟩ (.slice F9 d9.files.length f9)).setCell ⟨Y, 5, none⟩ (.slice K9 d9.keys.length k9)).heap.size := by simp [World.setCell]
        refine hK.out _ _ HD10.out.box.cell (fun hHeld => ?_)
        clear hK K g9 zz9 HD9 HY9 HR9 HX9
        (try simp only [Act.put, List.setIfInBounds_toArray, List.set_cons_zero, List.set_cons_succ])
        generalize ((((((w9.setCell ⟨Y, 0, none⟩ (.int .i64 d9.use)).setCell ⟨Y, 1, none⟩ (.int .i64 d9.scr.row)).setCell ⟨Y, 2, none⟩ (.int .i64 d9.scr.col)).setCell ⟨Y, 3, none⟩ (.slice A9 d9.scr.rows.length c9)).setCell ⟨Y, 4, none⟩ (.slice F9 d9.files.length f9)).setCell ⟨Y, 5, none⟩ (.slice K9 d9.keys.length k9)) = w10 at *
        ((refine AnyT.takeAny 8 7 ?_ rfl (by kernel_rfl) (by kernel_rfl) (by kernel_rfl) rfl rfl (fun _ _ _ _ h => h) rfl ?_ (by assumption) ?_); rotate_left; (intro w; go_simp; (try (with_reducible rfl))); simp only [Act.put, List.setIfInBounds_toArray, List.set_cons_zero, List.set_cons_succ])
        refine AnyT.done (by kernel_rfl) ?_ _
        clear hHeld
        have gx := HD10.out.box.cell; have zx := HD10.out.box.frozen
        by_cases hc : code = 0
        · subst hc
          have gy := HY10.out.cell
          go_wp2_with fail
          go_roundw
          case rel =>
            have h10 := HD10.out.take hpl (HX10.out rfl) HLW.out hz10 (.inr (by omega)) (by omega)
            refine ⟨j - 1, by omega, by go_num, d9, A9, c9, F9, f9, K9, k9, _, _, ⟨(by obtain ⟨q, hq, hs⟩ := h10.src; exact ⟨q, by omega, hs⟩), h10.box, h10.dev, h10.top, h10.far, h10.lop, h10.px, h10.low, h10.mov⟩, ?_, by omega⟩
            exact (((((HR10.out.far (p := ⟨X, 0, none⟩) (by simp; omega) _).far (p := ⟨X, 1, none⟩) (by simp; omega) _).far (p := ⟨X, 2, none⟩) (by simp; omega) _).far (p := ⟨X, 3, none⟩) (by simp; omega) _).far (p := ⟨X, 4, none⟩) (by simp; omega) _).far (p := ⟨X, 5, none⟩) (by simp; omega) _
          case measure => simp [intOf]; omega
        · have hc' : (code == 0) = false := by simp [hc]
          have HC := Lib.hid hc; clear hc
          go_wp2_with fail
          go_roundw
          case rel =>
            have h10 := HD10.out
            exact ⟨j - 1, by omega, by go_num, d, A2, c2, F2, f2, K2, k2, _, _, ⟨(by obtain ⟨q, hq, hs⟩ := h10.src; exact ⟨q, by omega, hs⟩), h10.box, h10.dev, h10.top, h10.far, h10.lop, h10.px, h10.low, h10.mov⟩, HR10.out, by omega⟩
          case measure => simp [intOf]; omega
    · obtain rfl : j = 0 := by omega
      obtain ⟨q4, hq4, hs4⟩ := HD.out.src
      have HP4 := Lib.hid (HPK.out wr q4 20 hs4 (HD.out.bytes HB.out hhi hp) (by omega) (by omega))
      clear hs4
      go_wp2_with fail
      refine HP4.out.mono ?_
      rintro e5 w5 ⟨r5, hr5, -, rfl, q5, hq51, hq52, hs5, ht5⟩
      have HD5 := Lib.hid (HD.out.moved (K' := k + 2 + 100 * 8 + 2) ht5.moved hpl ⟨q5, by omega, hs5⟩)
      have hxp := HD5.out.px; have hXl := HD5.out.box.lt
      have HR5 := Lib.hid (show Blk w5 w.heap.size 32 #[.int .i64 0, .int .i64 0, .int .i64 0, .slice none 0 0, .slice none 0 0, .slice none 0 0] from (ht5.block _ (by omega)).trans HR.out)
      clear HP4 HD HR hs5 ht5 hr5
      have hrc : r5 = 0 ∨ r5 = 1 ∨ r5 = 2 ∨ r5 = 3 ∨ r5 = 4 ∨ 5 ≤ r5 := by omega
      rcases hrc with rfl | rfl | rfl | rfl | rfl | hr5
      · obtain ⟨q6, hq6, hs6⟩ := HD5.out.src
        have HP6 := Lib.hid (HPK.out w5 q6 6 hs6 (HD5.out.bytes HB.out hhi hp) (by omega) (by omega))
        clear hs6
        go_wp2_with fail
        refine HP6.out.mono ?_
        rintro e7 w7 ⟨r7, -, hr7, rfl, q7, hq71, hq72, hs7, ht7⟩
        have HD7 := Lib.hid (HD5.out.moved (K' := k + 2 + 100 * 8 + 4) ht7.moved hpl ⟨q7, by omega, hs7⟩)
        have HR7 := Lib.hid (show Blk w7 w.heap.size 32 #[.int .i64 0, .int .i64 0, .int .i64 0, .slice none 0 0, .slice none 0 0, .slice none 0 0] from (ht7.block _ (by omega)).trans HR5.out)
        clear HP6 HD5 HR5 hs7 ht7
        have fx := HD7.out.box.cell; have zx := HD7.out.box.frozen
        have hwr := wrap_i64_in ((r7 : Int) - 1) (by omega) (by omega)
        go_upto_region 27 with fail
        have HE := Lib.hid ((HD7.out.ended (by omega) (by omega)).use HD7.out.far ((r7 : Int) - 1))
        have HRE := Lib.hid (HR7.out.far (p := ⟨X, 0, none⟩) (by simp; omega) (.int .i64 ((r7 : Int) - 1)))
        clear fx zx HD7 HR7 hwr
        generalize w7.setCell ⟨X, 0, none⟩ (.int .i64 ((r7 : Int) - 1)) = w8 at *
        have hew := HE.out.px; have hel := HE.out.lop; have het := HE.out.top
        have fx := HE.out.box.cell; have fr := HRE.out.cell; have zr := HRE.out.frozen
        go_wp2_with fail
        refine bodyPost_ret (v := .agg (devCs (⟨(r7 : Int) - 1, d.scr, d.files, d.keys⟩ : Dev) A2 c2 F2 f2 K2 k2)) (by simp [results, Tryz.results59, go_sem, fr, devCs]) rfl ⟨_, ⟨(r7 : Int) - 1, d.scr, d.files, d.keys⟩, rfl, ?_, HE.out.low, ?_⟩
        · exact ((loc_devX _ _ _ ⟨(r7 : Int) - 1, d.scr, d.files, d.keys⟩ w8 _ (fun b q1 q2 => by iterate 6 (rw [Below.heap_setCell _ _ _ b (by simp; omega)])) HE.out.dev).more (lo' := w.heap.size) (hi' := w8.heap.size) (by omega) het).reads.more' (by simp [World.setCell])
        · exact (((((HE.out.mov.set (q := ⟨w.heap.size, 0, none⟩) (Nat.le_refl _) _).set (q := ⟨w.heap.size, 1, none⟩) (Nat.le_refl _) _).set (q := ⟨w.heap.size, 2, none⟩) (Nat.le_refl _) _).set (q := ⟨w.heap.size, 3, none⟩) (Nat.le_refl _) _).set (q := ⟨w.heap.size, 4, none⟩) (Nat.le_refl _) _).set (q := ⟨w.heap.size, 5, none⟩) (Nat.le_refl _) _
      · go_upto_region 18 with fail
        refine AnyT.region (fun i => i == 9) (fun W => ∀ i, W.cell? ⟨X, i, none⟩ = (devCs d A2 c2 F2 f2 K2 k2)[i]?) (by kernel_rfl) (HD5.out.drew hpl).box.cell (fun hHeld => ?_)
        have HD6 := Lib.hid (HD5.out.drew hpl); have HR6 := Lib.hid (show Blk w5.drew w.heap.size 32 #[.int .i64 0, .int .i64 0, .int .i64 0, .slice none 0 0, .slice none 0 0, .slice none 0 0] from HR5.out.drewN 1)
        have hlo5 : w.heap.size + 1 ≤ l2 := by omega
        have hX5 : w.heap.size < X := by omega
        clear HD5 HR5
        generalize w5.drew = w6 at *
        ((refine AnyT.takeAny 0 63 ?_ rfl (by kernel_rfl) (by kernel_rfl) (by kernel_rfl) rfl rfl (fun _ _ _ _ h => h) rfl ?_ (by assumption) ?_); rotate_left; (intro w; go_simp; (try (with_reducible rfl))); simp only [Act.put, List.setIfInBounds_toArray, List.set_cons_zero, List.set_cons_succ])
        ((refine AnyT.take 1 64 ?_ rfl (by kernel_rfl) (by kernel_rfl) (by kernel_rfl) (by kernel_rfl) rfl (by kernel_rfl) rfl (fun _ _ _ _ h => h) rfl ?_ (by assumption) ?_); rotate_left; (intro w hSw; (try dsimp only at hSw); go_simp; (try (with_reducible rfl))); simp only [Act.put, List.setIfInBounds_toArray, List.set_cons_zero, List.set_cons_succ])
        ((refine AnyT.takeAny 2 65 ?_ rfl (by kernel_rfl) (by kernel_rfl) (by kernel_rfl) rfl rfl (fun _ _ _ _ h => h) rfl ?_ (by assumption) ?_); rotate_left; (intro w; go_simp; (try (with_reducible rfl))); simp only [Act.put, List.setIfInBounds_toArray, List.set_cons_zero, List.set_cons_succ])
        ((refine AnyT.one (i := 3) (by kernel_rfl) rfl (fun K hK => ?_)))
        go_simp
        have hL6 := three_lit w6
        have hZ6 := HD6.out.mov.size
        have HD7 := Lib.hid (HD6.out.alloc hpl (.cells #[.string ⟨#[65]⟩, .string ⟨#[90, 90]⟩, .string ⟨#[49]⟩] 9))
        have HR7 := Lib.hid (HR6.out.alloc (.cells #[.string ⟨#[65]⟩, .string ⟨#[90, 90]⟩, .string ⟨#[49]⟩] 9))
        refine hK.out _ _ HD7.out.box.cell (fun hHeld => ?_)
        clear hK K HD6 HR6
        (try simp only [Act.put, List.setIfInBounds_toArray, List.set_cons_zero, List.set_cons_succ])
        have HL7 := Lib.hid hL6; clear hL6
        generalize w6.alloc (.cells #[.string ⟨#[65]⟩, .string ⟨#[90, 90]⟩, .string ⟨#[49]⟩] 9) = w7 at *
        generalize w6.heap.size = Z at *
        obtain ⟨q7, hq7, hs7⟩ := HD7.out.src
        have HT7 := Lib.hid (srcText_any p lo hi A n c q7 Z (Z + 1) 3 3 (some ⟨Z, 0, none⟩) threeNames w7 hs7 (HD7.out.bytes HB.out hhi hp) (by omega) hn hp HL7.out (by decide) (by decide) (.inr (by omega)))
        clear hs7 HL7
        ((refine AnyT.one (i := 4) (by kernel_rfl) rfl (fun K hK => ?_)))
        go_simp
        refine HT7.out.mono ?_
        rintro e8 w8 ⟨x, hx, rfl, q8, hq81, hq82, hs8, ht8⟩
        have hxs : x.size ≤ 1048576 := by simp [threeNames] at hx; rcases hx with rfl | rfl | rfl <;> decide
        go_simp
        have HD8 := Lib.hid (HD7.out.moved (K' := k + 2 + 100 * 8 + 4) ht8.moved hpl ⟨q8, by omega, hs8⟩)
        have HR8 := Lib.hid (show Blk w8 w.heap.size 32 #[.int .i64 0, .int .i64 0, .int .i64 0, .slice none 0 0, .slice none 0 0, .slice none 0 0] from (ht8.block _ (by omega)).trans HR7.out)
        refine hK.out _ _ HD8.out.box.cell (fun hHeld => ?_)
        clear hK K HD7 HR7 HT7 hs8 ht8 hx
        (try simp only [Act.put, List.setIfInBounds_toArray, List.set_cons_zero, List.set_cons_succ])
        ((refine AnyT.takeAny 5 68 ?_ rfl (by kernel_rfl) (by kernel_rfl) (by kernel_rfl) rfl rfl (fun _ _ _ _ h => h) rfl ?_ (by assumption) ?_); rotate_left; (intro w; go_simp; (try (with_reducible rfl))); simp only [Act.put, List.setIfInBounds_toArray, List.set_cons_zero, List.set_cons_succ])
        ((refine AnyT.one (i := 6) (by kernel_rfl) rfl (fun K hK => ?_)))
        go_simp
        have HD9 := Lib.hid (HD8.out.alloc hpl (.cells #[.string x, .slice none 0 0, .string ⟨#[]⟩, .int .i64 0] 55))
        refine hK.out _ _ HD9.out.box.cell (fun hHeld => ?_)
        clear hK K HD9
        (try simp only [Act.put, List.setIfInBounds_toArray, List.set_cons_zero, List.set_cons_succ])
        obtain ⟨xs, a1, b1, a2, b2, a3, b3, r1, r2, r3, r4, r5', r6⟩ := HD8.out.dev.parts
        have hxl : xs.length = d.files.length := by rw [← r5', List.length_map]
        have hfl := HD8.out.low.files
        have HROW := Lib.hid (show (w8.alloc (.cells #[.string x, .slice none 0 0, .string ⟨#[]⟩, .int .i64 0] 55)).ownsRow (w.heap.size + 1) 55 4 (.slice F2 d.files.length f2) d.files.length (flat xs) from by
          rw [← hxl]; exact own_mono (r6.row.alloc _) (by omega))
        have HFLT := Lib.hid (flatR_new w8 x)
        have hsz9 : w.heap.size + 1 ≤ (w8.alloc (.cells #[.string x, .slice none 0 0, .string ⟨#[]⟩, .int .i64 0] 55)).heap.size := by simp; exact HD8.out.mov.size
        have hob : ∀ b, (Value.slice F2 d.files.length f2).ownBlock = some b → lo ≤ b → True := fun _ _ _ => trivial
        have HOB := Lib.hid (show ∀ b, (Value.slice F2 d.files.length f2).ownBlock = some b → l2 ≤ b ∧ b < h2 from fun b e => by have := r6.low (by rw [hxl]; exact e); omega)
        have HPT := Lib.hid r1; have HPU := Lib.hid r2; have HPV := Lib.hid r3; have HPW := Lib.hid r4; have HPX := Lib.hid r5'; have HPY := Lib.hid r6
        clear r1 r2 r3 r4 r5' r6 hob
        ((refine AnyT.one (i := 7) (by kernel_rfl) rfl (fun K hK => ?_)))
        refine step_appFx (by rfl) (.tmp 64) (.tmp 69) 30 (by rfl) Tryz.underlying30 _ (w.heap.size + 1) (.slice F2 d.files.length f2) xs [⟨⟨x, [], ⟨#[]⟩, 0⟩, none, 0⟩] d.files.length 1 (by rfl) HROW.out hxl (some ⟨w8.heap.size, 0, none⟩) 1 (by rfl) rfl HFLT.out (fun h => by cases h) (by omega) hsz9 ?_
        intro A' c' w10 hr10 hg10 hb10
        have hfar8 := HD8.out.far; have htop8 := HD8.out.top
        have hB10 : Blk w10 X 32 (devCs d A2 c2 F2 f2 K2 k2) := ((hg10.block X (by have := HD8.out.box.lt; simp; omega) (fun e => by have := HOB.out X e.symm; omega)).trans (Below.heap_alloc w8 _ X HD8.out.box.lt)).trans HD8.out.box
        have hRR : Blk w10 w.heap.size 32 #[.int .i64 0, .int .i64 0, .int .i64 0, .slice none 0 0, .slice none 0 0, .slice none 0 0] := ((hg10.block w.heap.size (by simp; have := HD8.out.mov.size; omega) (fun e => by have := HOB.out _ e.symm; omega)).trans (Below.heap_alloc w8 _ w.heap.size HR8.out.lt)).trans HR8.out
        obtain ⟨D', hE⟩ : ∃ D', DFin w (w10.setCell ⟨X, 4, none⟩ (.slice A' (d.files.length + 1) c')) p X D' A2 c2 A' c' K2 k2 := ⟨_, HD8.out.addF HPT.out HPU.out HPV.out HPW.out HPX.out HPY.out hX5 hlo5 hpl hxs hr10 hg10⟩
        have HE := Lib.hid hE
        have HRE := Lib.hid (hRR.far (p := ⟨X, 4, none⟩) (by simp; omega) (.slice A' (d.files.length + 1) c'))
        refine hK.out _ _ hB10.cell (fun hHeld => ?_)
        clear hK K hr10 hg10 hb10 hRR hE HD8 HR8 HROW HFLT HOB HPT HPU HPV HPW HPX HPY hsz9
        (try simp only [Act.put, List.setIfInBounds_toArray, List.set_cons_zero, List.set_cons_succ])
        ((refine AnyT.takeAny 8 71 ?_ rfl (by kernel_rfl) (by kernel_rfl) (by kernel_rfl) rfl rfl (fun _ _ _ _ h => h) rfl ?_ (by assumption) ?_); rotate_left; (intro w; go_simp; (try (with_reducible rfl))); simp only [Act.put, List.setIfInBounds_toArray, List.set_cons_zero, List.set_cons_succ])
        have f10 := hB10.cell; have z10 := hB10.frozen
        ((refine AnyT.last (i := 9) (by kernel_rfl) rfl (by kernel_rfl) (fun K hK => ?_)))
        go_simp
        refine hK.out _ _ ?_
        clear hK K f10 z10 hB10
        (try simp only [Act.put, List.setIfInBounds_toArray, List.set_cons_zero, List.set_cons_succ])
        refine AnyT.done (by kernel_rfl) ?_ _
        generalize w10.setCell ⟨X, 4, none⟩ (.slice A' (d.files.length + 1) c') = w11 at *
        clear hHeld
        have fx := HE.out.box.cell; have fr := HRE.out.cell; have zr := HRE.out.frozen; have hew := HE.out.px
        go_wp2_with fail
        have hfin := HE.out.done (.int .i64 D'.use) (.int .i64 D'.scr.row) (.int .i64 D'.scr.col) (.slice A2 D'.scr.rows.length c2) (.slice A' D'.files.length c') (.slice K2 D'.keys.length k2)
        exact bodyPost_ret (v := .agg (devCs D' A2 c2 A' c' K2 k2)) (by simp [results, Tryz.results59, go_sem, fr, devCs]) rfl ⟨_, D', rfl, hfin.1, hfin.2.1, hfin.2.2⟩
      · obtain ⟨q6, hq6, hs6⟩ := HD5.out.src
        have HP6 := Lib.hid (l31Screen_any p lo hi A n c q6 w5 hs6 (HD5.out.bytes HB.out hhi hp) (by have := HD5.out.mov.size; omega) (by omega) hn hp)
        clear hs6
        go_wp2_with fail
        refine HP6.out.mono ?_
        rintro e7 w7 ⟨s7, b7, off7, cap7, h67, h217, rfl, hO7, ht7⟩
        have hz7 := ht7.size
        have HR7 := Lib.hid (show Blk w7 w.heap.size 32 #[.int .i64 0, .int .i64 0, .int .i64 0, .slice none 0 0, .slice none 0 0, .slice none 0 0] from (ht7.block _ (by omega) (by omega)).trans HR5.out)
        have HE := Lib.hid ((HD5.out.ended (by omega) (by omega)).scr HD5.out.far hpl ht7 (cap := cap7) hO7.reads ⟨by omega, fun r hr => by have := h217 r hr; omega⟩)
        have hbx := (ht7.block X (by omega) (by omega)).trans HD5.out.box
        have fx := Blk.cell hbx; have zx := Blk.frozen hbx
        clear HP6 HD5 HR5 hO7 ht7 hbx h67 h217
        go_upto_region 27 with fail
        have HRE := Lib.hid (((HR7.out.far (p := ⟨X, 1, none⟩) (by simp; omega) (.int .i64 s7.row)).far (p := ⟨X, 2, none⟩) (by simp; omega) (.int .i64 s7.col)).far (p := ⟨X, 3, none⟩) (by simp; omega) (.slice (some ⟨b7, off7, none⟩) s7.rows.length cap7))
        clear fx zx HR7
        generalize ((w7.setCell ⟨X, 1, none⟩ (.int .i64 s7.row)).setCell ⟨X, 2, none⟩ (.int .i64 s7.col)).setCell ⟨X, 3, none⟩ (.slice (some ⟨b7, off7, none⟩) s7.rows.length cap7) = w8 at *
        have hew := HE.out.px; have hel := HE.out.lop; have het := HE.out.top
        have fx := HE.out.box.cell; have fr := HRE.out.cell; have zr := HRE.out.frozen
        go_wp2_with fail
        refine bodyPost_ret (v := .agg (devCs (⟨d.use, s7, d.files, d.keys⟩ : Dev) (some ⟨b7, off7, none⟩) cap7 F2 f2 K2 k2)) (by simp [results, Tryz.results59, go_sem, fr, devCs]) rfl ⟨_, (⟨d.use, s7, d.files, d.keys⟩ : Dev), rfl, ?_, HE.out.low, ?_⟩
        · exact ((loc_devX _ _ _ (⟨d.use, s7, d.files, d.keys⟩ : Dev) w8 _ (fun b q1 q2 => by iterate 6 (rw [Below.heap_setCell _ _ _ b (by simp; omega)])) HE.out.dev).more (lo' := w.heap.size) (hi' := w8.heap.size) (by omega) het).reads.more' (by simp [World.setCell])
        · exact (((((HE.out.mov.set (q := ⟨w.heap.size, 0, none⟩) (Nat.le_refl _) _).set (q := ⟨w.heap.size, 1, none⟩) (Nat.le_refl _) _).set (q := ⟨w.heap.size, 2, none⟩) (Nat.le_refl _) _).set (q := ⟨w.heap.size, 3, none⟩) (Nat.le_refl _) _).set (q := ⟨w.heap.size, 4, none⟩) (Nat.le_refl _) _).set (q := ⟨w.heap.size, 5, none⟩) (Nat.le_refl _) _
      · obtain ⟨a1, b1, a2, b2, a3, b3, hk0⟩ := HD5.out.dkey (by omega) (by omega)
        have HK0 := Lib.hid hk0
        have hX5 : w.heap.size < X := by omega
        clear hk0 HD5
        obtain ⟨N, hN⟩ : ∃ N, N = w5.heap.size := ⟨_, rfl⟩
        rw [← hN] at HK0
        go_wp2_with fail
        go_loopw [] (fun wr => ∃ (ks : List ByteArray) (K3 : Option Addr) (k3 : Nat), DKey w wr p X N A n c (k + 2 + 100 * 8 + 2 + 2 * ks.length) d ks A2 c2 F2 f2 K3 k3 a1 b1 a2 b2 a3 b3 ∧ Blk wr w.heap.size 32 #[.int .i64 0, .int .i64 0, .int .i64 0, .slice none 0 0, .slice none 0 0, .slice none 0 0]) (fun wr => 21 - keysAt wr X)
        case atStart =>
          have h3 := HK0.out
          exact ⟨d.keys, K2, k2, ⟨(by obtain ⟨q, hq, hs⟩ := h3.src; exact ⟨q, by omega, hs⟩), h3.box, h3.rows, h3.fils, h3.keys, h3.kat, h3.top, h3.geo, h3.low, h3.num, h3.mov⟩, HR5.out⟩
        case round =>
          clear HK0 HR5
          obtain ⟨ks, K3, k3, hd, hr⟩ := hrel
          have HD := Lib.hid hd; have HR := Lib.hid hr
          have hkl := hd.num.1
          have hkat : keysAt wr X = ks.length := by unfold keysAt; rw [hd.box.cell]; rfl
          have HKAT := Lib.hid hkat
          clear hd hr hkat
          have HD6 := Lib.hid (HD.out.drew hpl); have HR6 := Lib.hid (show Blk wr.drew w.heap.size 32 #[.int .i64 0, .int .i64 0, .int .i64 0, .slice none 0 0, .slice none 0 0, .slice none 0 0] from HR.out.drewN 1)
          go_upto_region 22 with fail
          refine AnyT.region (fun _ => false) (fun W => ∀ i, W.cell? ⟨X, i, none⟩ = (#[.int .i64 d.use, .int .i64 d.scr.row, .int .i64 d.scr.col, .slice A2 d.scr.rows.length c2, .slice F2 d.files.length f2, .slice K3 ks.length k3] : Array Value)[i]?) (by kernel_rfl) HD6.out.box.cell (fun hHeld => ?_)
          clear HD HR
          generalize wr.drew = w6 at *
          ((refine AnyT.takeAny 0 79 ?_ rfl (by kernel_rfl) (by kernel_rfl) (by kernel_rfl) rfl rfl (fun _ _ _ _ h => h) rfl ?_ (by assumption) ?_); rotate_left; (intro w; go_simp; (try (with_reducible rfl))); simp only [Act.put, List.setIfInBounds_toArray, List.set_cons_zero, List.set_cons_succ])
          ((refine AnyT.take 1 80 ?_ rfl (by kernel_rfl) (by kernel_rfl) (by kernel_rfl) (by kernel_rfl) rfl (by kernel_rfl) rfl (fun _ _ _ _ h => h) rfl ?_ (by assumption) ?_); rotate_left; (intro w hSw; (try dsimp only at hSw); go_simp; (try (with_reducible rfl))); simp only [Act.put, List.setIfInBounds_toArray, List.set_cons_zero, List.set_cons_succ])
          ((refine AnyT.takeAny 2 81 ?_ rfl (by kernel_rfl) (by kernel_rfl) (by kernel_rfl) rfl rfl (fun _ _ _ _ h => h) rfl ?_ (by assumption) ?_); rotate_left; (intro w; go_simp; (try (with_reducible rfl))); simp only [Act.put, List.setIfInBounds_toArray, List.set_cons_zero, List.set_cons_succ])
          ((refine AnyT.takeAny 3 82 ?_ rfl (by kernel_rfl) (by kernel_rfl) (by kernel_rfl) rfl rfl (fun _ _ _ _ h => h) rfl ?_ (by assumption) ?_); rotate_left; (intro w; go_simp; (try (with_reducible rfl))); simp only [Act.put, List.setIfInBounds_toArray, List.set_cons_zero, List.set_cons_succ])
          obtain ⟨q6, hq6, hs6⟩ := HD6.out.src
          have HP6 := Lib.hid (HPK.out w6 q6 2 hs6 (HD6.out.bytes HB.out hhi hp) (by omega) (by omega))
          clear hs6
          ((refine AnyT.one (i := 4) (by kernel_rfl) rfl (fun K hK => ?_)))
          go_simp
          refine HP6.out.mono ?_
          rintro e7 w7 ⟨r7, hr7, -, rfl, q7, hq71, hq72, hs7, ht7⟩
          have hr7' := hr7 (by omega)
          go_simp
          have HD7 := Lib.hid (HD6.out.moved (K' := k + 2 + 100 * 8 + 2 + 2 * ks.length + 2) ht7.moved hpl ⟨q7, by omega, hs7⟩)
          have HR7 := Lib.hid (show Blk w7 w.heap.size 32 #[.int .i64 0, .int .i64 0, .int .i64 0, .slice none 0 0, .slice none 0 0, .slice none 0 0] from (ht7.block _ (by omega)).trans HR6.out)
          refine hK.out _ _ HD7.out.box.cell (fun hHeld => ?_)
          clear hK K HD6 HR6 HP6 hs7 ht7 hr7
          (try simp only [Act.put, List.setIfInBounds_toArray, List.set_cons_zero, List.set_cons_succ])
          have hw20 : IntKind.i64.wrap (20 + (r7 : Int)) = 20 + (r7 : Int) := wrap_i64_in _ (by omega) (by omega)
          ((refine AnyT.takeAny 5 84 ?_ rfl (by kernel_rfl) (by kernel_rfl) (by kernel_rfl) rfl rfl (fun _ _ _ _ h => h) rfl ?_ (by assumption) ?_); rotate_left; (intro w; go_simp; (try (with_reducible rfl))); simp only [Act.put, List.setIfInBounds_toArray, List.set_cons_zero, List.set_cons_succ])
          ((refine AnyT.takeAny 6 85 ?_ rfl (by kernel_rfl) (by kernel_rfl) (by kernel_rfl) rfl rfl (fun _ _ _ _ h => h) rfl ?_ (by assumption) ?_); rotate_left; (intro w; go_simp; (try (with_reducible rfl))); simp only [Act.put, List.setIfInBounds_toArray, List.set_cons_zero, List.set_cons_succ])
          refine AnyT.done (by kernel_rfl) ?_ _
          clear hHeld
          (try rw [hw20])
          by_cases hlt : (ks.length : Int) < 20 + (r7 : Int)
          · have hdec : decide ((ks.length : Int) < 20 + (r7 : Int)) = true := decide_eq_true hlt
            have f7 := HD7.out.box.cell; have z7 := HD7.out.box.frozen
            have hX7 := HD7.out.box.lt
            have hgeo := HD7.out.geo; have htop7 := HD7.out.top
            have HKO := Lib.hid HD7.out.keys
            have hkob : ∀ b, (Value.slice K3 ks.length k3).ownBlock = some b → (w.heap.size + 1 ≤ b ∧ b ≠ X) := fun b e => by
              have h1 := HD7.out.kat b e; have h2 := (HD7.out.keys.lt b e).1; omega
            have HKOB := Lib.hid hkob
            have HFX := Lib.hid (show ∀ W : World, (w7.alloc (.cells #[.string ⟨#[107]⟩] 9)).grownBy W (Value.slice K3 ks.length k3).ownBlock → Blk W X 32 #[.int .i64 d.use, .int .i64 d.scr.row, .int .i64 d.scr.col, .slice A2 d.scr.rows.length c2, .slice F2 d.files.length f2, .slice K3 ks.length k3] from fun W hg =>
              ((hg.block X (by simp; omega) (fun e => (HKOB.out X e.symm).2 rfl)).trans (Below.heap_alloc w7 _ X hX7)).trans HD7.out.box)
            have HFR := Lib.hid (show ∀ W : World, (w7.alloc (.cells #[.string ⟨#[107]⟩] 9)).grownBy W (Value.slice K3 ks.length k3).ownBlock → Blk W w.heap.size 32 #[.int .i64 0, .int .i64 0, .int .i64 0, .slice none 0 0, .slice none 0 0, .slice none 0 0] from fun W hg =>
              ((hg.block w.heap.size (by have := HR7.out.lt; simp; omega) (fun e => by have := (HKOB.out _ e.symm).1; omega)).trans (Below.heap_alloc w7 _ w.heap.size HR7.out.lt)).trans HR7.out)
            have hb7 : w.heap.size + 1 ≤ w7.heap.size := by omega
            clear hkob
            go_wp2_with (at_builtin; refine wpList_app1L (by rfl) (.tmp 87) (.tmp 88) (by rfl) w7 (w.heap.size + 1) (.slice K3 ks.length k3) ks.length ks ⟨#[107]⟩ (by rfl) HKO.out (by rfl) (by omega) hb7 ?_; intro g cap w8 hr8 hg8 hat8 hlt8; have f8 := (HFX.out w8 hg8).cell; have z8 := (HFX.out w8 hg8).frozen; have HR8 := Lib.hid (HFR.out w8 hg8); have HADD := Lib.hid (HD7.out.add hpl (by decide) (by omega) hr8 hg8 hat8); clear hr8 hg8 hat8)
            go_roundw
            case rel =>
              refine ⟨ks ++ [⟨#[107]⟩], some ⟨g, 0, none⟩, cap, ?_, HR8.out.far (p := ⟨X, 5, none⟩) (by simp; omega) _⟩
              have h9 := HADD.out
              exact ⟨(by obtain ⟨q, hq, hs⟩ := h9.src; exact ⟨q, by simp; omega, hs⟩), h9.box, h9.rows, h9.fils, h9.keys, h9.kat, h9.top, h9.geo, h9.low, h9.num, h9.mov⟩
            case measure =>
              have h9 : keysAt (w8.setCell ⟨X, 5, none⟩ (.slice (some ⟨g, 0, none⟩) (ks.length + 1) cap)) X = ks.length + 1 := by
                unfold keysAt; rw [HADD.out.box.cell]; simp
              rw [h9, HKAT.out]; omega
          · have hdec : decide ((ks.length : Int) < 20 + (r7 : Int)) = false := decide_eq_false hlt
            obtain ⟨D', hE⟩ : ∃ D', DFin w w7 p X D' A2 c2 F2 f2 K3 k3 := ⟨_, HD7.out.fin⟩
            have HE := Lib.hid hE; have HRE := Lib.hid HR7.out
            clear hE HD7 HR7
            have fx := HE.out.box.cell; have fr := HRE.out.cell; have zr := HRE.out.frozen; have hew := HE.out.px
            go_wp2_with fail
            have hfin := HE.out.done (.int .i64 D'.use) (.int .i64 D'.scr.row) (.int .i64 D'.scr.col) (.slice A2 D'.scr.rows.length c2) (.slice F2 D'.files.length f2) (.slice K3 D'.keys.length k3)
            exact bodyPost_ret (v := .agg (devCs D' A2 c2 F2 f2 K3 k3)) (by simp [results, Tryz.results59, go_sem, fr, devCs]) rfl ⟨_, rfl, D', hfin.1, hfin.2.1, hfin.2.2⟩
      · by_cases hn0 : 0 < d.files.length
        · obtain ⟨g, rfl, hg1, hg2, hgc⟩ := HD5.out.frow hn0
          have HGC := Lib.hid hgc; clear hgc
          have fx := HD5.out.box.cell
          have hpos : (0 : Int) < (d.files.length : Int) := by omega
          have hdec : decide ((0 : Int) < (d.files.length : Int)) = true := decide_eq_true hpos
          have hlo5 : w.heap.size + 1 ≤ l2 := by omega
          have hX5 : w.heap.size < X := by omega
          have hfar5 := HD5.out.far
          go_upto_region 26 with fail
          have HD6 := Lib.hid (HD5.out.drew hpl); have HR6 := Lib.hid (show Blk w5.drew w.heap.size 32 #[.int .i64 0, .int .i64 0, .int .i64 0, .slice none 0 0, .slice none 0 0, .slice none 0 0] from HR5.out.drewN 1)
          have HGC6 := Lib.hid (show w5.drew.cell? ⟨g, 3, none⟩ = some (.int .i64 (d.files.getD 0 filD).at_) from HGC.out)
          generalize hat : (d.files.getD 0 filD).at_ = AT at *
          clear hat
          refine AnyT.region (fun i => i == 12) (fun W => (∀ i, W.cell? ⟨X, i, none⟩ = (devCs d A2 c2 (some ⟨g, 0, none⟩) f2 K2 k2)[i]?) ∧ W.cell? ⟨g, 3, none⟩ = some (.int .i64 AT)) (by kernel_rfl) ⟨HD6.out.box.cell, HGC6.out⟩ (fun hHeld => ?_)
          clear HD5 HR5 HGC fx
          generalize w5.drew = w6 at *
          ((refine AnyT.takeAny 0 97 ?_ rfl (by kernel_rfl) (by kernel_rfl) (by kernel_rfl) rfl rfl (fun _ _ _ _ h => h) rfl ?_ (by assumption) ?_); rotate_left; (intro w; go_simp; (try (with_reducible rfl))); simp only [Act.put, List.setIfInBounds_toArray, List.set_cons_zero, List.set_cons_succ])
          ((refine AnyT.take 1 98 ?_ rfl (by kernel_rfl) (by kernel_rfl) (by kernel_rfl) (by kernel_rfl) rfl (by kernel_rfl) rfl (fun _ _ _ _ h => h) rfl ?_ (by assumption) ?_); rotate_left; (intro w hSw; (try dsimp only at hSw); go_simp; (try (with_reducible rfl))); simp only [Act.put, List.setIfInBounds_toArray, List.set_cons_zero, List.set_cons_succ])
          ((refine AnyT.takeAny 2 99 ?_ rfl (by kernel_rfl) (by kernel_rfl) (by kernel_rfl) rfl rfl (fun _ _ _ _ h => h) rfl ?_ (by assumption) ?_); rotate_left; (intro w; go_simp; (try (with_reducible rfl))); simp only [Act.put, List.setIfInBounds_toArray, List.set_cons_zero, List.set_cons_succ])
          ((refine AnyT.take 3 100 ?_ rfl (by kernel_rfl) (by kernel_rfl) (by kernel_rfl) (by kernel_rfl) rfl (by kernel_rfl) rfl (fun _ _ _ _ h => h) rfl ?_ (by assumption) ?_); rotate_left; (intro w hSw; (try dsimp only at hSw); go_simp; (try (with_reducible rfl))); simp only [Act.put, List.setIfInBounds_toArray, List.set_cons_zero, List.set_cons_succ])
          ((refine AnyT.takeAny 4 101 ?_ rfl (by kernel_rfl) (by kernel_rfl) (by kernel_rfl) rfl rfl (fun _ _ _ _ h => h) rfl ?_ (by assumption) ?_); rotate_left; (intro w; go_simp; (try (with_reducible rfl))); simp only [Act.put, List.setIfInBounds_toArray, List.set_cons_zero, List.set_cons_succ])
          ((refine AnyT.takeAny 5 102 ?_ rfl (by kernel_rfl) (by kernel_rfl) (by kernel_rfl) rfl rfl (fun _ _ _ _ h => h) rfl ?_ (by assumption) ?_); rotate_left; (intro w; go_simp; (try (with_reducible rfl))); simp only [Act.put, List.setIfInBounds_toArray, List.set_cons_zero, List.set_cons_succ])
          ((refine AnyT.take 6 103 ?_ rfl (by kernel_rfl) (by kernel_rfl) (by kernel_rfl) (by kernel_rfl) rfl (by kernel_rfl) rfl (fun _ _ _ _ h => h) rfl ?_ (by assumption) ?_); rotate_left; (intro w hSw; (try dsimp only at hSw); go_simp; (try (with_reducible rfl))); simp only [Act.put, List.setIfInBounds_toArray, List.set_cons_zero, List.set_cons_succ])
          ((refine AnyT.takeAny 7 104 ?_ rfl (by kernel_rfl) (by kernel_rfl) (by kernel_rfl) rfl rfl (fun _ _ _ _ h => h) rfl ?_ (by assumption) ?_); rotate_left; (intro w; go_simp; (try (with_reducible rfl))); simp only [Act.put, List.setIfInBounds_toArray, List.set_cons_zero, List.set_cons_succ])
          obtain ⟨q6, hq6, hs6⟩ := HD6.out.src
          have HP6 := Lib.hid (HPK.out w6 q6 3 hs6 (HD6.out.bytes HB.out hhi hp) (by omega) (by omega))
          clear hs6
          ((refine AnyT.one (i := 8) (by kernel_rfl) rfl (fun K hK => ?_)))
          go_simp
          refine HP6.out.mono ?_
          rintro e7 w7 ⟨r7, -, hr7, rfl, q7, hq71, hq72, hs7, ht7⟩
          go_simp
          have HD7 := Lib.hid (HD6.out.moved (K' := k + 2 + 100 * 8 + 4) ht7.moved hpl ⟨q7, by omega, hs7⟩)
          have HR7 := Lib.hid (show Blk w7 w.heap.size 32 #[.int .i64 0, .int .i64 0, .int .i64 0, .slice none 0 0, .slice none 0 0, .slice none 0 0] from (ht7.block _ (by omega)).trans HR6.out)
          have HGC7 := Lib.hid (show w7.cell? ⟨g, 3, none⟩ = some (.int .i64 AT) from (World.cell?_of_block (ht7.block g (by omega))).trans HGC6.out)
          refine hK.out _ _ ⟨HD7.out.box.cell, HGC7.out⟩ (fun hHeld => ?_)
          clear hK K HD6 HR6 HP6 HGC6 hs7 ht7
          (try simp only [Act.put, List.setIfInBounds_toArray, List.set_cons_zero, List.set_cons_succ])
          ((refine AnyT.takeAny 9 106 ?_ rfl (by kernel_rfl) (by kernel_rfl) (by kernel_rfl) rfl rfl (fun _ _ _ _ h => h) rfl ?_ (by assumption) ?_); rotate_left; (intro w; go_simp; (try (with_reducible rfl))); simp only [Act.put, List.setIfInBounds_toArray, List.set_cons_zero, List.set_cons_succ])
          ((refine AnyT.takeAny 10 107 ?_ rfl (by kernel_rfl) (by kernel_rfl) (by kernel_rfl) rfl rfl (fun _ _ _ _ h => h) rfl ?_ (by assumption) ?_); rotate_left; (intro w; go_simp; (try (with_reducible rfl))); simp only [Act.put, List.setIfInBounds_toArray, List.set_cons_zero, List.set_cons_succ])
          ((refine AnyT.takeAny 11 108 ?_ rfl (by kernel_rfl) (by kernel_rfl) (by kernel_rfl) rfl rfl (fun _ _ _ _ h => h) rfl ?_ (by assumption) ?_); rotate_left; (intro w; go_simp; (try (with_reducible rfl))); simp only [Act.put, List.setIfInBounds_toArray, List.set_cons_zero, List.set_cons_succ])
          generalize IntKind.i64.wrap (AT + (r7 : Int)) = NA at *
          obtain ⟨D', hE⟩ : ∃ D', DFin w (w7.setCell ⟨g, 3, none⟩ (.int .i64 NA)) p X D' A2 c2 (some ⟨g, 0, none⟩) f2 K2 k2 := ⟨_, HD7.out.atZ hn0 hX5 hlo5 NA⟩
          have HE := Lib.hid hE
          have HRE := Lib.hid (HR7.out.far (p := ⟨g, 3, none⟩) (by simp; omega) (.int .i64 NA))
          have g7 := HGC7.out
          have zg : w7.frozen? ⟨g, 3, none⟩ = false := HD7.out.fzn hn0 3
          ((refine AnyT.last (i := 12) (by kernel_rfl) rfl (by kernel_rfl) (fun K hK => ?_)))
          go_simp
          refine hK.out _ _ ?_
          clear hK K g7 zg hE HGC7 HD7 HR7
          (try simp only [Act.put, List.setIfInBounds_toArray, List.set_cons_zero, List.set_cons_succ])
          refine AnyT.done (by kernel_rfl) ?_ _
          generalize w7.setCell ⟨g, 3, none⟩ (.int .i64 NA) = w11 at *
          clear hHeld
          have fx := HE.out.box.cell; have fr := HRE.out.cell; have zr := HRE.out.frozen; have hew := HE.out.px
          go_wp2_with fail
          have hfin := HE.out.done (.int .i64 D'.use) (.int .i64 D'.scr.row) (.int .i64 D'.scr.col) (.slice A2 D'.scr.rows.length c2) (.slice (some ⟨g, 0, none⟩) D'.files.length f2) (.slice K2 D'.keys.length k2)
          exact bodyPost_ret (v := .agg (devCs D' A2 c2 (some ⟨g, 0, none⟩) f2 K2 k2)) (by simp [results, Tryz.results59, go_sem, fr, devCs]) rfl ⟨_, D', rfl, hfin.1, hfin.2.1, hfin.2.2⟩
        · have hdec : decide ((0 : Int) < (d.files.length : Int)) = false := decide_eq_false (by omega)
          have fx := HD5.out.box.cell; have fr := HR5.out.cell; have zr := HR5.out.frozen; have hlX := HD5.out.px; have htpz := HD5.out.top
          have hng : ¬ (0 : Int) < (d.files.length : Int) := by omega
          go_wp2_with fail
          refine bodyPost_ret (v := .agg (devCs d A2 c2 F2 f2 K2 k2)) (by simp [results, Tryz.results59, go_sem, fr, devCs]) rfl ⟨_, d, rfl, ?_, HD5.out.low.small, ?_⟩
          · exact ((loc_devX _ _ _ d w5 _ (fun b q1 q2 => by iterate 6 (rw [Below.heap_setCell _ _ _ b (by simp; omega)])) HD5.out.dev).more (lo' := w.heap.size) (hi' := w5.heap.size) (by omega) htpz).reads.more' (by simp [World.setCell])
          · exact (((((HD5.out.mov.set (q := ⟨w.heap.size, 0, none⟩) (Nat.le_refl _) _).set (q := ⟨w.heap.size, 1, none⟩) (Nat.le_refl _) _).set (q := ⟨w.heap.size, 2, none⟩) (Nat.le_refl _) _).set (q := ⟨w.heap.size, 3, none⟩) (Nat.le_refl _) _).set (q := ⟨w.heap.size, 4, none⟩) (Nat.le_refl _) _).set (q := ⟨w.heap.size, 5, none⟩) (Nat.le_refl _) _
      · have n0 : ((r5 : Int) == 0) = false := by rw [beq_eq_false_iff_ne]; omega
        have n1 : ((r5 : Int) == 1) = false := by rw [beq_eq_false_iff_ne]; omega
        have n2 : ((r5 : Int) == 2) = false := by rw [beq_eq_false_iff_ne]; omega
        have n3 : ((r5 : Int) == 3) = false := by rw [beq_eq_false_iff_ne]; omega
        have n4 : ((r5 : Int) == 4) = false := by rw [beq_eq_false_iff_ne]; omega
        have fx := HD5.out.box.cell; have fr := HR5.out.cell; have zr := HR5.out.frozen; have hlX := HD5.out.px; have htpz := HD5.out.top
        go_wp2_with fail
        refine bodyPost_ret (v := .agg (devCs d A2 c2 F2 f2 K2 k2)) (by simp [results, Tryz.results59, go_sem, fr, devCs]) rfl ⟨_, d, rfl, ?_, HD5.out.low.small, ?_⟩
        · exact ((loc_devX _ _ _ d w5 _ (fun b q1 q2 => by iterate 6 (rw [Below.heap_setCell _ _ _ b (by simp; omega)])) HD5.out.dev).more (lo' := w.heap.size) (hi' := w5.heap.size) (by omega) htpz).reads.more' (by simp [World.setCell])
        · exact (((((HD5.out.mov.set (q := ⟨w.heap.size, 0, none⟩) (Nat.le_refl _) _).set (q := ⟨w.heap.size, 1, none⟩) (Nat.le_refl _) _).set (q := ⟨w.heap.size, 2, none⟩) (Nat.le_refl _) _).set (q := ⟨w.heap.size, 3, none⟩) (Nat.le_refl _) _).set (q := ⟨w.heap.size, 4, none⟩) (Nat.le_refl _) _).set (q := ⟨w.heap.size, 5, none⟩) (Nat.le_refl _) _

end Go.Proofs.YtmeholhmadeehaaGreatDoor
