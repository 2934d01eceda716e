/- The drawn source of numbers: l00Src.next, pick, among, text walked. -/
import Derived.Test.YtfibjcaidnofmaaGreatDoorRows
import Derived.Test.YtfibjcaidnofmaaGreatDoorJoinEXAd
import Derived.Test.YtfibjcaidnofmaaGreatDoorJoinEXAa
namespace Go.Proofs.YtfibjcaidnofmaaGreatDoor
open Go.RowKit

/-- Only block p has changed, and draws. -/
structure Turned (p : Nat) (w w' : World) : Prop where
  os : w'.os = w.os
  tape : w'.tape = w.tape
  output : w'.output = w.output
  size : w'.heap.size = w.heap.size
  block : ∀ k, k ≠ p → w'.heap[k]? = w.heap[k]?

theorem Turned.two (w : World) (p : Nat) (u v : Value) : Turned p w ((w.setCell ⟨p, 1, none⟩ u).setCell ⟨p, 2, none⟩ v) :=
  ⟨rfl, rfl, rfl, by simp [World.setCell], fun k hk => (Below.heap_setCell _ ⟨p, 2, none⟩ _ k hk).trans (Below.heap_setCell _ ⟨p, 1, none⟩ _ k hk)⟩
theorem Turned.drew {p : Nat} {w w' : World} (h : Turned p w w') (q : Nat) : Turned p w (w'.drewN q) := ⟨h.os, h.tape, h.output, h.size, h.block⟩
theorem Turned.trans {p : Nat} {w w1 w2 : World} (h : Turned p w w1) (k : Turned p w1 w2) : Turned p w w2 := ⟨k.os.trans h.os, k.tape.trans h.tape, k.output.trans h.output, k.size.trans h.size, fun i hi => (k.block i hi).trans (h.block i hi)⟩

theorem and_255 (x : Int) : ∃ b : Nat, b ≤ 255 ∧ bits .and .u64 x 255 = (b : Int) ∧ wrap64 (bits .and .u64 x 255) = (b : Int) := by
  have h : (BitVec.ofInt 64 x &&& BitVec.ofInt 64 255).toNat ≤ 255 := by
    rw [BitVec.toNat_and]
    exact Nat.le_trans Nat.and_le_right (by decide)
  have e : bits .and .u64 x 255 = ((BitVec.ofInt 64 x &&& BitVec.ofInt 64 255).toNat : Int) := by
    show IntKind.u64.wrap ((BitVec.ofInt 64 x &&& BitVec.ofInt 64 255).toNat : Int) = _
    generalize (BitVec.ofInt 64 x &&& BitVec.ofInt 64 255).toNat = m at *
    exact IntWalk.u64_in _ (by omega)
  refine ⟨_, h, e, ?_⟩
  rw [e]
  exact IntWalk.wrap64_in _ ⟨by omega, by omega⟩

/-- The bytes of a slice. -/
def BytesR (w : World) (lo hi : Nat) (A : Option Addr) (n : Nat) : Prop := 0 < n → ∃ b off, A = some ⟨b, off, none⟩ ∧ lo ≤ b ∧ b < hi ∧ ∀ j, j < n → ∃ z : Nat, z ≤ 255 ∧ w.cell? ⟨b, off + j, none⟩ = some (.int .u8 z)
theorem BytesR.keep {w w' : World} {lo hi : Nat} {A : Option Addr} {n : Nat} (h : BytesR w lo hi A n) (hk : ∀ b, lo ≤ b → b < hi → w'.heap[b]? = w.heap[b]?) : BytesR w' lo hi A n := fun hn => by
  obtain ⟨b, off, e, h1, h2, hc⟩ := h hn
  exact ⟨b, off, e, h1, h2, fun j hj => by
    obtain ⟨z, hz, hcz⟩ := hc j hj
    exact ⟨z, hz, (World.cell?_of_block (hk b h1 h2)).trans hcz⟩⟩

/-- The source: its code, how many have been drawn, some seed. -/
def SrcB (w : World) (p : Nat) (A : Option Addr) (n c : Nat) (k : Nat) : Prop := ∃ seed : Int, Blk w p 109 #[.slice A n c, .int .i64 k, .int .u64 seed]

set_option maxHeartbeats 4000000 in
set_option maxRecDepth 100000 in
theorem next_any (p lo hi : Nat) (A : Option Addr) (n c k : Nat) (w : World) (h : SrcB w p A n c k) (hb : BytesR w lo hi A n) (hk : k ≤ 1000000000) (hn : n ≤ 1048576) (hp : hi ≤ p ∨ p < lo) :
    Calls Tryz.prog 122 #[.pointer (some ⟨p, 0, none⟩)] w fun e w' => ∃ b : Nat, b ≤ 255 ∧ e = .returned (.int .i64 b) ∧ SrcB w' p A n c (k + 1) ∧ Turned p w w' := by
  obtain ⟨seed, hB⟩ := h
  have f := hB.cell
  have z := hB.frozen
  have k0 : (0 : Int) ≤ (k : Int) := by omega
  by_cases hlt : k < n
  · obtain ⟨b, off, rfl, hb1, hb2, hc⟩ := hb (by omega)
    obtain ⟨zb, hz, hcell⟩ := hc k hlt
    have l1 : decide (k < n) = true := decide_eq_true hlt
    have l2 : decide ((k : Int) < (n : Int)) = true := decide_eq_true (by omega)
    have i1 : (k : Int) < (n : Int) := by omega
    have hbp : b ≠ p := by omega
    clear hc hb
    go_enter Tryz.func122, Tryz.ntmps122
    go_wp2_with fail
    go_quiet (fail)
    have HT1 := Lib.hid (show Turned p w (w.drewN nq) from ⟨rfl, rfl, rfl, rfl, fun _ _ => rfl⟩)
    have HB1 := Lib.hid (show Blk (w.drewN nq) p 109 #[.slice (some ⟨b, off, none⟩) n c, .int .i64 k, .int .u64 seed] from hB)
    have hc1 : (w.drewN nq).cell? ⟨b, off + k, none⟩ = some (.int .u8 zb) := hcell
    generalize w.drewN nq = w1 at *
    clear f z hcell hB nq
    have f := HB1.out.cell
    have z := HB1.out.frozen
    go_wp2_with fail
    go_quiet (fail)
    have HT2 := Lib.hid (show Turned p w1 (w1.drewN nq) from ⟨rfl, rfl, rfl, rfl, fun _ _ => rfl⟩)
    have HB2 := Lib.hid (show Blk (w1.drewN nq) p 109 #[.slice (some ⟨b, off, none⟩) n c, .int .i64 k, .int .u64 seed] from HB1.out)
    generalize w1.drewN nq = w2 at *
    clear f z hc1 HB1 nq
    have f := HB2.out.cell
    have z := HB2.out.frozen
    go_wp2_with fail
    generalize IntKind.u64.wrap (IntKind.u64.wrap (IntKind.u64.wrap (seed * 6364136223846793005) + zb) + 1442695040888963407) = S at *
    have HT := Lib.hid (((HT1.out.trans HT2.out)).trans (Turned.two w2 p (.int .i64 (k + 1)) (.int .u64 S)))
    have HB3 := Lib.hid (show Blk ((w2.setCell ⟨p, 1, none⟩ (.int .i64 (k + 1))).setCell ⟨p, 2, none⟩ (.int .u64 S)) p 109 #[.slice (some ⟨b, off, none⟩) n c, .int .i64 (k + 1), .int .u64 S] from (HB2.out.set_ 1 _).set_ 2 _)
    generalize (w2.setCell ⟨p, 1, none⟩ (.int .i64 (k + 1))).setCell ⟨p, 2, none⟩ (.int .u64 S) = W at *
    clear f z HB2 HT1 HT2
    have f := HB3.out.cell
    have l3 : decide (k + 1 ≤ n) = true := decide_eq_true (by omega)
    have l4 : decide ((k : Int) + 1 ≤ (n : Int)) = true := decide_eq_true (by omega)
    have i2 : (k : Int) + 1 ≤ (n : Int) := by omega
    go_wp2_with fail
    go_quiet (fail)
    go_wp2_with fail
    go_ret
    exact ⟨zb, hz, rfl, ⟨S, HB3.out.drewN _⟩, HT.out.drew _⟩
  · have l1 : decide (k < n) = false := decide_eq_false hlt
    have l2 : decide ((k : Int) < (n : Int)) = false := decide_eq_false (by omega)
    have i1 : ¬ ((k : Int) < (n : Int)) := by omega
    clear hb
    go_enter Tryz.func122, Tryz.ntmps122
    go_wp2_with fail
    go_quiet (fail)
    go_wp2_with fail
    have HT1 := Lib.hid (show Turned p w (w.drewN nq) from ⟨rfl, rfl, rfl, rfl, fun _ _ => rfl⟩)
    have HB1 := Lib.hid (show Blk (w.drewN nq) p 109 #[.slice A n c, .int .i64 k, .int .u64 seed] from hB)
    generalize w.drewN nq = w2 at *
    generalize IntKind.u64.wrap (IntKind.u64.wrap (IntKind.u64.wrap (seed * 6364136223846793005)) + 1442695040888963407) = S at *
    have HT := Lib.hid (HT1.out.trans (Turned.two w2 p (.int .i64 (k + 1)) (.int .u64 S)))
    have HB3 := Lib.hid (show Blk ((w2.setCell ⟨p, 1, none⟩ (.int .i64 (k + 1))).setCell ⟨p, 2, none⟩ (.int .u64 S)) p 109 #[.slice A n c, .int .i64 (k + 1), .int .u64 S] from (HB1.out.set_ 1 _).set_ 2 _)
    generalize (w2.setCell ⟨p, 1, none⟩ (.int .i64 (k + 1))).setCell ⟨p, 2, none⟩ (.int .u64 S) = W at *
    clear f z hB HB1 HT1 nq
    have f := HB3.out.cell
    have l3 : decide (k + 1 ≤ n) = false := decide_eq_false (by omega)
    have l4 : decide ((k : Int) + 1 ≤ (n : Int)) = false := decide_eq_false (by omega)
    have i2 : ¬ ((k : Int) + 1 ≤ (n : Int)) := by omega
    go_wp2_with fail
    go_quiet (fail)
    go_wp2_with fail
    obtain ⟨q, hq, -, hqe⟩ := and_255 (S / 1099511627776)
    go_ret
    exact ⟨q, hq, congrArg (fun x => Ending.returned (.int .i64 x)) hqe, ⟨S, HB3.out.drewN _⟩, HT.out.drew _⟩

/-- What a draw leaves: the source, a little further on. -/
def Drawn (w w' : World) (p : Nat) (A : Option Addr) (n c k more : Nat) : Prop := ∃ k', k ≤ k' ∧ k' ≤ k + more ∧ SrcB w' p A n c k' ∧ Turned p w w'
theorem Turned.refl (p : Nat) (w : World) : Turned p w w := ⟨rfl, rfl, rfl, rfl, fun _ _ => rfl⟩

set_option maxHeartbeats 4000000 in
set_option maxRecDepth 100000 in
theorem pick_any (p lo hi : Nat) (A : Option Addr) (n c k : Nat) (m : Int) (w : World) (h : SrcB w p A n c k) (hb : BytesR w lo hi A n) (hk : k ≤ 900000000) (hn : n ≤ 1048576) (hp : hi ≤ p ∨ p < lo) (hm : m ≤ 60000) :
    Calls Tryz.prog 78 #[.pointer (some ⟨p, 0, none⟩), .int .i64 m] w fun e w' => ∃ r : Nat, (1 ≤ m → (r : Int) < m) ∧ r ≤ 60000 ∧ e = .returned (.int .i64 r) ∧ Drawn w w' p A n c k 2 := by
  by_cases h1 : m ≤ 1
  · have HS := Lib.hid h; clear h
    go_enter Tryz.func78, Tryz.ntmps78
    go_wp2_with fail
    go_ret
    exact ⟨0, fun h => by omega, by omega, rfl, k, Nat.le_refl _, by omega, HS.out, Turned.refl _ _⟩
  · have HN := Lib.hid (fun W k' (h : SrcB W p A n c k') h2 (h3 : k' ≤ 1000000000) => next_any p lo hi A n c k' W h h2 h3 hn hp)
    have HS := Lib.hid h; have HB := Lib.hid hb
    clear h hb
    by_cases h2 : 200 < m
    · go_enter Tryz.func78, Tryz.ntmps78
      go_wp2_with fail
      refine (HN.out _ k HS.out HB.out (by omega)).mono ?_
      rintro e1 w1 ⟨x1, hx1, rfl, hs1, ht1⟩
      have HS1 := Lib.hid hs1; have HT1 := Lib.hid ht1
      have HB1 := Lib.hid (HB.out.keep (w' := w1) (fun b _ _ => ht1.block b (by omega)))
      clear hs1 ht1
      go_wp2_with fail
      refine (HN.out _ (k + 1) HS1.out HB1.out (by omega)).mono ?_
      rintro e2 w2 ⟨x2, hx2, rfl, hs2, ht2⟩
      have HS2 := Lib.hid hs2; have HT2 := Lib.hid (HT1.out.trans ht2)
      clear hs2 ht2
      have hr0 : (0 : Int) ≤ ((x1 : Int) * 256 + (x2 : Int)) % m := Int.emod_nonneg _ (by omega)
      have hr1 : ((x1 : Int) * 256 + (x2 : Int)) % m < m := Int.emod_lt_of_pos _ (by omega)
      obtain ⟨r, hr⟩ := Int.eq_ofNat_of_zero_le hr0
      have HR := Lib.hid hr
      clear hr0
      go_wp2_with fail
      go_ret
      exact ⟨r, fun _ => by rw [← HR.out]; exact hr1, by have := HR.out; omega, congrArg (fun x => Ending.returned (.int .i64 x)) HR.out, k + 2, by omega, by omega, HS2.out, HT2.out⟩
    · go_enter Tryz.func78, Tryz.ntmps78
      go_wp2_with fail
      refine (HN.out _ k HS.out HB.out (by omega)).mono ?_
      rintro e1 w1 ⟨x1, hx1, rfl, hs1, ht1⟩
      have HS1 := Lib.hid hs1; have HT1 := Lib.hid ht1
      clear hs1 ht1
      have hr0 : (0 : Int) ≤ (x1 : Int) % m := Int.emod_nonneg _ (by omega)
      have hr1 : (x1 : Int) % m < m := Int.emod_lt_of_pos _ (by omega)
      obtain ⟨r, hr⟩ := Int.eq_ofNat_of_zero_le hr0
      have HR := Lib.hid hr
      clear hr0
      go_wp2_with fail
      go_ret
      exact ⟨r, fun _ => by rw [← HR.out]; exact hr1, by have := HR.out; omega, congrArg (fun x => Ending.returned (.int .i64 x)) HR.out, k + 1, by omega, by omega, HS1.out, HT1.out⟩

set_option maxHeartbeats 4000000 in
set_option maxRecDepth 100000 in
theorem srcText_any (p lo hi : Nat) (A : Option Addr) (n c k lo2 hi2 m c2 : Nat) (L : Option Addr) (xs : List ByteArray) (w : World) (h : SrcB w p A n c k) (hb : BytesR w lo hi A n) (hk : k ≤ 900000000) (hn : n ≤ 1048576) (hp : hi ≤ p ∨ p < lo) (hl : RowR Value.string ByteArray.empty w lo2 hi2 L m xs) (hm0 : 0 < m) (hm : m ≤ 60000) (hp2 : hi2 ≤ p ∨ p < lo2) :
    Calls Tryz.prog 70 #[.pointer (some ⟨p, 0, none⟩), .slice L m c2] w fun e w' => ∃ x ∈ xs, e = .returned (.string x) ∧ Drawn w w' p A n c k 2 := by
  have HN := Lib.hid (pick_any p lo hi A n c k m w h hb hk hn hp (by omega))
  have HL := Lib.hid hl
  clear h hb hl
  go_enter Tryz.func70, Tryz.ntmps70
  go_wp2_with fail
  refine HN.out.mono ?_
  rintro e1 w1 ⟨r, hr, hr6, rfl, k', hk1, hk2, hs1, ht1⟩
  have hrm := hr (by omega)
  have hl1 := HL.out.keep (w' := w1) (fun b h1 h2 => ht1.block b (by omega))
  obtain ⟨b, off, rfl, hb1, hb2, hcell⟩ := hl1.at_ (k := r) (by omega)
  have HX := Lib.hid (show xs.getD r ByteArray.empty ∈ xs from by
    have hlen := HL.out.1
    rw [List.getD_eq_getElem?_getD, List.getElem?_eq_getElem (by omega)]
    exact List.getElem_mem _)
  have HD := Lib.hid (show Drawn w w1 p A n c k 2 from ⟨k', hk1, hk2, hs1, ht1⟩)
  have r0 : (0 : Int) ≤ (r : Int) := by omega
  clear hl1 hs1 ht1 hr
  generalize xs.getD r ByteArray.empty = X at *
  go_wp2_with fail
  go_ret
  exact ⟨X, HX.out, rfl, HD.out⟩

end Go.Proofs.YtfibjcaidnofmaaGreatDoor

/- l31Text walked: a drawn text. -/
namespace Go.Proofs.YtfibjcaidnofmaaGreatDoor
open Go.RowKit

/-- Block p has changed, and new blocks have come. -/
structure Moved (p : Nat) (w w' : World) : Prop where
  os : w'.os = w.os
  tape : w'.tape = w.tape
  output : w'.output = w.output
  size : w.heap.size ≤ w'.heap.size
  block : ∀ k, k < w.heap.size → k ≠ p → w'.heap[k]? = w.heap[k]?
theorem Moved.refl (p : Nat) (w : World) : Moved p w w := ⟨rfl, rfl, rfl, Nat.le_refl _, fun _ _ _ => rfl⟩
theorem Moved.trans {p : Nat} {w w1 w2 : World} (h : Moved p w w1) (k : Moved p w1 w2) : Moved p w w2 := ⟨k.os.trans h.os, k.tape.trans h.tape, k.output.trans h.output, Nat.le_trans h.size k.size, fun i hi hn => (k.block i (Nat.lt_of_lt_of_le hi h.size) hn).trans (h.block i hi hn)⟩
theorem Turned.moved {p : Nat} {w w1 : World} (h : Turned p w w1) : Moved p w w1 := ⟨h.os, h.tape, h.output, Nat.le_of_eq h.size.symm, fun k _ hn => h.block k hn⟩
theorem Moved.of_below {p : Nat} {w w1 : World} (h : Below w.heap.size w w1) : Moved p w w1 := ⟨h.os, h.tape, h.output, h.size, fun k hk _ => h.block k hk⟩
theorem Moved.below {p B : Nat} {w w1 : World} (h : Moved p w w1) (hp : B ≤ p) (hB : B ≤ w.heap.size) : Below B w w1 := ⟨h.os, h.tape, h.output, h.size, fun k hk => h.block k (by omega) (by omega)⟩
theorem SrcB.below {w w1 : World} {p n c k B : Nat} {A : Option Addr} (h : SrcB w p A n c k) (hb : Below B w w1) (hp : p < B) : SrcB w1 p A n c k := by
  obtain ⟨s, hB⟩ := h
  exact ⟨s, hB.below hb hp⟩
theorem SrcB.lt {w : World} {p n c k : Nat} {A : Option Addr} (h : SrcB w p A n c k) : p < w.heap.size := by
  obtain ⟨s, hB⟩ := h
  exact hB.lt

theorem rowR_new {α : Type} {enc : α → Value} {d : α} (w : World) (t : TypeId) (xs : List α) : RowR enc d (w.alloc (.cells (xs.map enc).toArray t)) w.heap.size (w.heap.size + 1) (some ⟨w.heap.size, 0, none⟩) xs.length xs :=
  ⟨rfl, fun _ => ⟨w.heap.size, 0, rfl, Nat.le_refl _, by omega, fun j hj => by
    rw [(Blk.new w t _).cell, Nat.zero_add]
    simp [List.getD_eq_getElem?_getD, List.getElem?_eq_getElem hj]⟩⟩

end Go.Proofs.YtfibjcaidnofmaaGreatDoor

/- A source is made; one of some numbers is drawn. -/
namespace Go.Proofs.YtfibjcaidnofmaaGreatDoor
open Go.RowKit

set_option maxHeartbeats 4000000 in
set_option maxRecDepth 100000 in
theorem among_any (p lo hi : Nat) (A : Option Addr) (n c k lo2 hi2 m c2 : Nat) (L : Option Addr) (xs : List Int) (w : World) (h : SrcB w p A n c k) (hb : BytesR w lo hi A n) (hk : k ≤ 900000000) (hn : n ≤ 1048576) (hp : hi ≤ p ∨ p < lo) (hl : RowR (fun z => Value.int .i64 z) (0 : Int) w lo2 hi2 L m xs) (hm0 : 0 < m) (hm : m ≤ 60000) (hp2 : hi2 ≤ p ∨ p < lo2) :
    Calls Tryz.prog 176 #[.pointer (some ⟨p, 0, none⟩), .slice L m c2] w fun e w' => ∃ x ∈ xs, e = .returned (.int .i64 x) ∧ Drawn w w' p A n c k 2 := by
  have HN := Lib.hid (pick_any p lo hi A n c k m w h hb hk hn hp (by omega))
  have HL := Lib.hid hl
  clear h hb hl
  go_enter Tryz.func176, Tryz.ntmps176
  go_wp2_with fail
  refine HN.out.mono ?_
  rintro e1 w1 ⟨r, hr, hr6, rfl, k', hk1, hk2, hs1, ht1⟩
  have hrm := hr (by omega)
  have hl1 := HL.out.keep (w' := w1) (fun b h1 h2 => ht1.block b (by omega))
  obtain ⟨b, off, rfl, hb1, hb2, hcell⟩ := hl1.at_ (k := r) (by omega)
  have HX := Lib.hid (show xs.getD r 0 ∈ xs from by
    have hlen := HL.out.1
    rw [List.getD_eq_getElem?_getD, List.getElem?_eq_getElem (by omega)]
    exact List.getElem_mem _)
  have HD := Lib.hid (show Drawn w w1 p A n c k 2 from ⟨k', hk1, hk2, hs1, ht1⟩)
  have r0 : (0 : Int) ≤ (r : Int) := by omega
  clear hl1 hs1 ht1 hr
  generalize xs.getD r 0 = X at *
  go_wp2_with fail
  go_ret
  exact ⟨X, HX.out, rfl, HD.out⟩

set_option maxHeartbeats 4000000 in
set_option maxRecDepth 100000 in
theorem l00From_any (A : Option Addr) (n c : Nat) (w : World) :
    Calls Tryz.prog 27 #[.slice A n c] w fun e w' => e = .returned (.pointer (some ⟨w.heap.size, 0, none⟩)) ∧ SrcB w' w.heap.size A n c 0 ∧ Below w.heap.size w w' := by
  go_enter Tryz.func27, Tryz.ntmps27
  go_wp2_with fail
  go_ret
  refine ⟨rfl, ⟨0, ?_⟩, ?_⟩
  · first | exact Blk.new w _ _ | ((repeat' (first | (with_reducible refine Blk.new' ?_ _ _; simp; done) | with_reducible refine Blk.drew1 ?_ | with_reducible refine Blk.alloc ?_ _)))
  · (repeat' (first | exact Below.refl _ _ | refine Below.drew ?_ | refine Below.alloc ?_ (by simp <;> omega) _))

end Go.Proofs.YtfibjcaidnofmaaGreatDoor

/- Drawn texts of trees: what the source gives. -/
namespace Go.Proofs.YtfibjcaidnofmaaGreatDoor
open Go.RowKit

/-- A source, its bytes, and how far it may have been read. -/
structure Src (w : World) (p lo hi : Nat) (A : Option Addr) (n c K : Nat) : Prop where
  src : ∃ k, k ≤ K ∧ SrcB w p A n c k
  bytes : BytesR w lo hi A n
  few : n ≤ 1048576
  apart : hi ≤ p ∨ p < lo
  le : hi ≤ w.heap.size
section
variable {w w' : World} {p lo hi n c K K' : Nat} {A : Option Addr}
theorem Src.lt (h : Src w p lo hi A n c K) : p < w.heap.size := by
  obtain ⟨k, _, hs⟩ := h.src
  exact hs.lt
theorem Src.moved (h : Src w p lo hi A n c K) (hm : Moved p w w') (hs : ∃ k, k ≤ K' ∧ SrcB w' p A n c k) : Src w' p lo hi A n c K' :=
  ⟨hs, h.bytes.keep fun b h1 h2 => hm.block b (by have := h.le; omega) (by have := h.apart; omega), h.few, h.apart, Nat.le_trans h.le hm.size⟩
theorem Src.below (h : Src w p lo hi A n c K) (hb : Below w.heap.size w w') : Src w' p lo hi A n c K := by
  obtain ⟨k, hk, hs⟩ := h.src
  exact h.moved (Moved.of_below hb) ⟨k, hk, hs.below hb hs.lt⟩
theorem Src.more (h : Src w p lo hi A n c K) (hk : K ≤ K') : Src w p lo hi A n c K' := by
  obtain ⟨k, h1, hs⟩ := h.src
  exact ⟨⟨k, by omega, hs⟩, h.bytes, h.few, h.apart, h.le⟩
theorem Src.far (h : Src w p lo hi A n c K) {q : Addr} (hq : p ≠ q.block) (hq2 : hi ≤ q.block) (u : Value) : Src (w.setCell q u) p lo hi A n c K := by
  obtain ⟨k, hk, sd, hs⟩ := h.src
  exact ⟨⟨k, hk, sd, Blk.far hs hq u⟩, h.bytes.keep fun b h1 h2 => Below.heap_setCell _ q u b (by omega), h.few, h.apart, by have := h.le; simpa using this⟩
theorem OwnR.moved {α : Type} {enc : α → Value} {base : Nat} {t : TypeId} {v : Value} {xs : List α} (h : OwnR enc w base t v xs) (hm : Moved p w w') (hp : p < base) : OwnR enc w' base t v xs := by
  refine ⟨h.1, h.2.1, ?_⟩
  rcases h.2.2 with h2 | ⟨g, cap, cur, e1, e2, e3, r⟩
  · exact .inl h2
  · refine .inr ⟨g, cap, cur, e1, e2, ?_, r⟩
    rw [hm.block g (Array.getElem?_eq_some_iff.1 e3).1 (by omega)]
    exact e3
theorem Moved.alloc (w : World) (o : Obj) (p : Nat) : Moved p w (w.alloc o) := Moved.of_below ((Below.refl _ _).alloc (Nat.le_refl _) o)
theorem Src.alloc (h : Src w p lo hi A n c K) (o : Obj) : Src (w.alloc o) p lo hi A n c K := h.below ((Below.refl _ _).alloc (Nat.le_refl _) o)
/-- A cell of one's own is set. -/
theorem Moved.set_ {w0 : World} (h : Moved p w0 w) {q : Addr} (hq : w0.heap.size ≤ q.block) (u : Value) : Moved p w0 (w.setCell q u) :=
  ⟨h.os, h.tape, h.output, by have := h.size; simpa using this, fun k hk hn => (Below.heap_setCell _ q u k (by omega)).trans (h.block k hk hn)⟩
theorem Blk.moved {g : Nat} {t : TypeId} {cs : Array Value} (h : Blk w g t cs) (hm : Moved p w w') (hp : g ≠ p) : Blk w' g t cs := (hm.block g h.lt hp).trans h
end

section
variable (p lo hi : Nat) (A : Option Addr) (n c K : Nat) (w : World) (h : Src w p lo hi A n c K) (hK : K ≤ 800000000)
include h hK
theorem pickS (m : Int) (hm1 : 1 ≤ m) (hm : m ≤ 60000) : Calls Tryz.prog 78 #[.pointer (some ⟨p, 0, none⟩), .int .i64 m] w fun e w' => ∃ r : Nat, (r : Int) < m ∧ e = .returned (.int .i64 r) ∧ Src w' p lo hi A n c (K + 2) ∧ Moved p w w' := by
  obtain ⟨k, hk, hs⟩ := h.src
  refine (pick_any p lo hi A n c k m w hs h.bytes (by omega) h.few h.apart hm).mono ?_
  rintro e w' ⟨r, hr, _, rfl, k', h1, h2, hs', ht⟩
  exact ⟨r, hr hm1, rfl, h.moved ht.moved ⟨k', by omega, hs'⟩, ht.moved⟩
set_option maxHeartbeats 1000000 in
theorem oneS (m : Int) (hm1 : 1 ≤ m) (hm : m ≤ 60000) : Calls Tryz.prog 69 #[.pointer (some ⟨p, 0, none⟩), .int .i64 m] w fun e w' => ∃ b : Bool, e = .returned (.bool b) ∧ Src w' p lo hi A n c (K + 2) ∧ Moved p w w' := by
  have HP := Lib.hid (pickS p lo hi A n c K w h hK m hm1 hm)
  clear h
  go_enter Tryz.func69, Tryz.ntmps69
  go_wp2_with fail
  refine HP.out.mono ?_
  rintro e1 w1 ⟨r, hr, rfl, hs1, ht1⟩
  have HS := Lib.hid hs1; have HT := Lib.hid ht1
  clear hs1 ht1
  go_wp2_with fail
  go_ret
  exact ⟨_, rfl, HS.out, HT.out⟩
/-- One of some texts, which lie in a new block. -/
theorem textS (xs : List ByteArray) (h0 : 0 < xs.length) (hm : xs.length ≤ 60000) : Calls Tryz.prog 70 #[.pointer (some ⟨p, 0, none⟩), .slice (some ⟨w.heap.size, 0, none⟩) xs.length xs.length] (w.alloc (.cells (xs.map Value.string).toArray 9)) fun e w' => ∃ x ∈ xs, e = .returned (.string x) ∧ Src w' p lo hi A n c (K + 2) ∧ Moved p w w' := by
  have hA := h.alloc (.cells (xs.map Value.string).toArray 9)
  obtain ⟨k, hk, hs⟩ := hA.src
  have hpl := h.lt
  refine (srcText_any p lo hi A n c k w.heap.size (w.heap.size + 1) xs.length xs.length (some ⟨w.heap.size, 0, none⟩) xs _ hs hA.bytes (by omega) h.few h.apart (rowR_new w 9 xs) h0 hm (.inr hpl)).mono ?_
  rintro e w' ⟨x, hx, rfl, k', h1, h2, hs', ht⟩
  exact ⟨x, hx, rfl, hA.moved ht.moved ⟨k', by omega, hs'⟩, (Moved.alloc w _ p).trans ht.moved⟩
theorem amongS (xs : List Int) (h0 : 0 < xs.length) (hm : xs.length ≤ 60000) : Calls Tryz.prog 176 #[.pointer (some ⟨p, 0, none⟩), .slice (some ⟨w.heap.size, 0, none⟩) xs.length xs.length] (w.alloc (.cells (xs.map (Value.int .i64)).toArray 2)) fun e w' => ∃ x ∈ xs, e = .returned (.int .i64 x) ∧ Src w' p lo hi A n c (K + 2) ∧ Moved p w w' := by
  have hA := h.alloc (.cells (xs.map (Value.int .i64)).toArray 2)
  obtain ⟨k, hk, hs⟩ := hA.src
  have hpl := h.lt
  refine (among_any p lo hi A n c k w.heap.size (w.heap.size + 1) xs.length xs.length (some ⟨w.heap.size, 0, none⟩) xs _ hs hA.bytes (by omega) h.few h.apart (rowR_new w 2 xs) h0 hm (.inr hpl)).mono ?_
  rintro e w' ⟨x, hx, rfl, k', h1, h2, hs', ht⟩
  exact ⟨x, hx, rfl, hA.moved ht.moved ⟨k', by omega, hs'⟩, (Moved.alloc w _ p).trans ht.moved⟩
end
abbrev l22TextTs : List ByteArray := [⟨#[]⟩, ⟨#[97]⟩, ⟨#[49, 50]⟩, ⟨#[45, 49, 46, 53]⟩, ⟨#[48, 49]⟩, ⟨#[115, 97, 121, 32, 34, 104, 105, 34]⟩, ⟨#[97, 10, 98]⟩, ⟨#[0, 255]⟩, ⟨#[9]⟩, ⟨#[120, 32, 121]⟩, ⟨#[36, 67, 40, 49, 48, 41]⟩, ⟨#[95]⟩, ⟨#[34]⟩, ⟨#[116, 97, 98, 9, 104, 101, 114, 101]⟩, ⟨#[46, 53]⟩, ⟨#[48, 46, 53]⟩, ⟨#[45, 48]⟩]
theorem l22TextTs_size : ∀ x ∈ l22TextTs, x.size ≤ 24 := by decide
abbrev l03NameTs : List ByteArray := [⟨#[65]⟩, ⟨#[65]⟩, ⟨#[66]⟩, ⟨#[65, 66]⟩, ⟨#[97]⟩, ⟨#[37, 90]⟩]
theorem l03NameTs_size : ∀ x ∈ l03NameTs, x.size ≤ 24 := by decide
abbrev l03SubTs : List ByteArray := [⟨#[49]⟩, ⟨#[50]⟩, ⟨#[49, 48]⟩, ⟨#[45, 51]⟩, ⟨#[49, 46, 53]⟩, ⟨#[97]⟩, ⟨#[98]⟩, ⟨#[97, 98]⟩, ⟨#[66]⟩, ⟨#[48, 49]⟩, ⟨#[48]⟩, ⟨#[120, 32, 121]⟩]
theorem l03SubTs_size : ∀ x ∈ l03SubTs, x.size ≤ 24 := by decide
abbrev l03ValTs : List ByteArray := [⟨#[]⟩, ⟨#[49]⟩, ⟨#[120]⟩, ⟨#[97, 98, 99]⟩, ⟨#[50]⟩, ⟨#[104, 101, 108, 108, 111]⟩]
theorem l03ValTs_size : ∀ x ∈ l03ValTs, x.size ≤ 24 := by decide

set_option maxHeartbeats 1000000 in
theorem l22Text_any (p lo hi : Nat) (A : Option Addr) (n c K : Nat) (w : World) (h : Src w p lo hi A n c K) (hK : K ≤ 800000000) :
    Calls Tryz.prog 73 #[.pointer (some ⟨p, 0, none⟩)] w fun e w' => ∃ x ∈ l22TextTs, e = .returned (.string x) ∧ Src w' p lo hi A n c (K + 2) ∧ Moved p w w' := by
  have HT := Lib.hid (textS p lo hi A n c K w h hK l22TextTs (by decide) (by decide))
  clear h
  go_enter Tryz.func73, Tryz.ntmps73
  go_wp2_with fail
  refine HT.out.mono ?_
  rintro e1 w1 ⟨x, hx, rfl, hs1, ht1⟩
  have HS := Lib.hid hs1; have HM := Lib.hid ht1; have HX := Lib.hid hx
  clear hs1 ht1 hx
  go_wp2_with fail
  go_ret
  exact ⟨x, HX.out, rfl, HS.out, HM.out⟩

set_option maxHeartbeats 1000000 in
theorem l03Name_any (p lo hi : Nat) (A : Option Addr) (n c K : Nat) (w : World) (h : Src w p lo hi A n c K) (hK : K ≤ 800000000) :
    Calls Tryz.prog 134 #[.pointer (some ⟨p, 0, none⟩)] w fun e w' => ∃ x ∈ l03NameTs, e = .returned (.string x) ∧ Src w' p lo hi A n c (K + 2) ∧ Moved p w w' := by
  have HT := Lib.hid (textS p lo hi A n c K w h hK l03NameTs (by decide) (by decide))
  clear h
  go_enter Tryz.func134, Tryz.ntmps134
  go_wp2_with fail
  refine HT.out.mono ?_
  rintro e1 w1 ⟨x, hx, rfl, hs1, ht1⟩
  have HS := Lib.hid hs1; have HM := Lib.hid ht1; have HX := Lib.hid hx
  clear hs1 ht1 hx
  go_wp2_with fail
  go_ret
  exact ⟨x, HX.out, rfl, HS.out, HM.out⟩

set_option maxHeartbeats 1000000 in
theorem l03Sub_any (p lo hi : Nat) (A : Option Addr) (n c K : Nat) (w : World) (h : Src w p lo hi A n c K) (hK : K ≤ 800000000) :
    Calls Tryz.prog 177 #[.pointer (some ⟨p, 0, none⟩)] w fun e w' => ∃ x ∈ l03SubTs, e = .returned (.string x) ∧ Src w' p lo hi A n c (K + 2) ∧ Moved p w w' := by
  have HT := Lib.hid (textS p lo hi A n c K w h hK l03SubTs (by decide) (by decide))
  clear h
  go_enter Tryz.func177, Tryz.ntmps177
  go_wp2_with fail
  refine HT.out.mono ?_
  rintro e1 w1 ⟨x, hx, rfl, hs1, ht1⟩
  have HS := Lib.hid hs1; have HM := Lib.hid ht1; have HX := Lib.hid hx
  clear hs1 ht1 hx
  go_wp2_with fail
  go_ret
  exact ⟨x, HX.out, rfl, HS.out, HM.out⟩

end Go.Proofs.YtfibjcaidnofmaaGreatDoor

/- Drawn places and changes. -/
namespace Go.Proofs.YtfibjcaidnofmaaGreatDoor
open Go.RowKit


section
variable {w0 w w' : World} {p lo hi n c K : Nat} {A : Option Addr}
theorem Moved.trans_below (h : Moved p w0 w) (hb : Below w0.heap.size w w') : Moved p w0 w' :=
  ⟨hb.os.trans h.os, hb.tape.trans h.tape, hb.output.trans h.output, Nat.le_trans h.size hb.size, fun k hk hn => (hb.block k hk).trans (h.block k hk hn)⟩
theorem Src.belowB {B : Nat} (h : Src w p lo hi A n c K) (hb : Below B w w') (hp : p < B) (hh : hi ≤ B) : Src w' p lo hi A n c K := by
  obtain ⟨k, hk, sd, hs⟩ := h.src
  exact ⟨⟨k, hk, sd, Blk.below hs hb hp⟩, h.bytes.keep fun b _ h2 => hb.block b (by omega), h.few, h.apart, Nat.le_trans h.le hb.size⟩
end

set_option maxHeartbeats 4000000 in
set_option maxRecDepth 100000 in
theorem l03Some_any (p lo hi : Nat) (A : Option Addr) (n c K : Nat) (w : World) (h : Src w p lo hi A n c K) (hK : K ≤ 700000000) :
    Calls Tryz.prog 135 #[.pointer (some ⟨p, 0, none⟩)] w fun e w' => ∃ v, e = .returned v ∧ ∃ xs, OwnStrs w' w.heap.size 9 v xs ∧ xs.length ≤ 4 ∧ (∀ x ∈ xs, x.size ≤ 24) ∧ Src w' p lo hi A n c (K + 12) ∧ Moved p w w' := by
  have hpl := h.lt
  have hhi := h.le
  have HO := Lib.hid (OwnR.none_ (enc := Value.string) w w.heap.size 9 (Nat.le_refl _))
  have HA := Lib.hid (amongS p lo hi A n c K _ (h.alloc (.cells #[] 9)) (by omega) [0, 1, 1, 2, 2, 3, 4] (by decide) (by decide))
  have HM0 := Lib.hid (Moved.alloc w (.cells #[] 9) p)
  have hs0 : (w.alloc (.cells #[] 9)).heap.size = w.heap.size + 1 := by simp
  rw [hs0] at HA
  clear h hs0
  go_enter Tryz.func135, Tryz.ntmps135
  go_wp2_with fail
  refine HA.out.mono ?_
  rintro e1 w1 ⟨x, hx, rfl, hs1, hm1⟩
  have hx4 : 0 ≤ x ∧ x ≤ 4 := by simp at hx; omega
  obtain ⟨j0, rfl⟩ := Int.eq_ofNat_of_zero_le hx4.1
  have HS1 := Lib.hid hs1; have HM1 := Lib.hid (HM0.out.trans hm1); have HO1 := Lib.hid (HO.out.moved hm1 hpl)
  clear hs1 hm1 hx HM0 HO HA
  go_wp2_with fail
  go_loopw [3, 4] (fun o kk wr => ∃ (j : Nat) (xs : List ByteArray), kk = .int .i64 j ∧ j + xs.length ≤ 4 ∧ (∀ x ∈ xs, x.size ≤ 24) ∧ OwnStrs wr w.heap.size 9 o xs ∧ Src wr p lo hi A n c (K + 2 + 2 * xs.length) ∧ Moved p w wr) (fun _ kk _ => (intOf kk).toNat)
  case atStart => exact ⟨j0, [], rfl, by simp; omega, (fun x hx => by cases hx), HO1.out, HS1.out, HM1.out⟩
  case round =>
    obtain ⟨j, xs, rfl, hj, hxs, ho, hs, hm⟩ := hrel
    have HX := Lib.hid hxs; have HO2 := Lib.hid ho; have HM2 := Lib.hid hm
    have HS2 := Lib.hid (l03Sub_any p lo hi A n c _ wr hs (by omega))
    by_cases h0 : 0 < j
    · have i1 : (0 : Int) < (j : Int) := by omega
      clear hxs ho hs hm
      go_wp2_with fail
      refine HS2.out.mono ?_; rintro e2 w2 ⟨y, hy, rfl, hs2, hm2⟩
      have HO3 := Lib.hid (HO2.out.moved hm2 hpl)
      have HM3 := Lib.hid (HM2.out.trans hm2)
      have HS3 := Lib.hid hs2
      have hy24 := l03SubTs_size y hy
      have hz2 := HM3.out.size
      clear hs2 hm2 hy
      go_wp2_with (first
        | fail
        | (at_builtin; refine wpList_app1 (enc := Value.string) rfl (.tmp 13) (.tmp 16) 29 9 rfl Tryz.underlying29 rfl (by omega) (fun _ => rfl) infoString w2 w.heap.size _ xs y rfl HO3.out rfl (by omega) hz2 ?_; intro v3 w3 hown4 hb3))
      go_roundw
      case rel => exact ⟨j - 1, xs ++ [y], by go_num, by rw [List.length_append]; simp; omega, fun z hz => by
        rcases List.mem_append.1 hz with hz | hz
        · exact HX.out z hz
        · rw [List.mem_singleton.1 hz]; exact hy24, hown4, (HS3.out.belowB hb3 hpl hhi).more (by rw [List.length_append]; simp; omega), HM3.out.trans_below hb3⟩
      case measure => simp [intOf]; omega
    · have HSS := Lib.hid (hs.more (K' := K + 12) (by omega))
      have i1 : ¬ (0 : Int) < (j : Int) := by omega
      clear hxs ho hs hm
      go_wp2_with fail
      go_ret
      exact ⟨_, rfl, xs, HO2.out, by omega, HX.out, HSS.out, HM2.out⟩

end Go.Proofs.YtfibjcaidnofmaaGreatDoor

/- The laws' helpers on drawn bytes: b10At, b10Long, b10Texts. -/
namespace Go.Proofs.YtfibjcaidnofmaaGreatDoor
open Go.RowKit

set_option maxHeartbeats 4000000 in
set_option maxRecDepth 100000 in
theorem b10Long_any (A B : Option Addr) (n c m d : Nat) (w : World) :
    Calls Tryz.prog 6 #[.slice A n c, .slice B m d] w fun e w' => e = .returned (.bool (decide (1048576 < n) || decide (1048576 < m))) ∧ Below w.heap.size w w' := by
  by_cases h1 : 1048576 < n
  · have t1 : (1048576 : Int) < (n : Int) := by omega
    go_enter Tryz.func6, Tryz.ntmps6
    go_wp2_with fail
    go_ret
    exact ⟨by simp [h1], Below.refl _ _⟩
  · have t1 : ¬ (1048576 : Int) < (n : Int) := by omega
    by_cases h2 : 1048576 < m
    · have t2 : (1048576 : Int) < (m : Int) := by omega
      go_enter Tryz.func6, Tryz.ntmps6
      go_wp2_with fail
      go_ret
      exact ⟨by simp, Below.refl _ _⟩
    · have t2 : ¬ (1048576 : Int) < (m : Int) := by omega
      go_enter Tryz.func6, Tryz.ntmps6
      go_wp2_with fail
      go_ret
      exact ⟨by simp, Below.refl _ _⟩

end Go.Proofs.YtfibjcaidnofmaaGreatDoor
