/- l31Text walked: a drawn text. -/
import Derived.Test.YtbpopkaafellgaaDoorSrc
namespace Go.Proofs.YtbpopkaafellgaaDoor
open Go.RowKit

/-- Block p has changed, and new blocks have come. -/
structure Moved (p : Nat) (w w' : World) : Prop where
  os : w'.os = w.os
  tape : w'.tape = w.tape
  output : w'.output = w.output
  size : w.heap.size ≤ w'.heap.size
  block : ∀ k, k < w.heap.size → k ≠ p → w'.heap[k]? = w.heap[k]?
theorem Moved.refl (p : Nat) (w : World) : Moved p w w := ⟨rfl, rfl, rfl, Nat.le_refl _, fun _ _ _ => rfl⟩
theorem Moved.trans {p : Nat} {w w1 w2 : World} (h : Moved p w w1) (k : Moved p w1 w2) : Moved p w w2 := ⟨k.os.trans h.os, k.tape.trans h.tape, k.output.trans h.output, Nat.le_trans h.size k.size, fun i hi hn => (k.block i (Nat.lt_of_lt_of_le hi h.size) hn).trans (h.block i hi hn)⟩
theorem Turned.moved {p : Nat} {w w1 : World} (h : Turned p w w1) : Moved p w w1 := ⟨h.os, h.tape, h.output, Nat.le_of_eq h.size.symm, fun k _ hn => h.block k hn⟩
theorem Moved.of_below {p : Nat} {w w1 : World} (h : Below w.heap.size w w1) : Moved p w w1 := ⟨h.os, h.tape, h.output, h.size, fun k hk _ => h.block k hk⟩
theorem Moved.below {p B : Nat} {w w1 : World} (h : Moved p w w1) (hp : B ≤ p) (hB : B ≤ w.heap.size) : Below B w w1 := ⟨h.os, h.tape, h.output, h.size, fun k hk => h.block k (by omega) (by omega)⟩
theorem SrcB.below {w w1 : World} {p n c k B : Nat} {A : Option Addr} (h : SrcB w p A n c k) (hb : Below B w w1) (hp : p < B) : SrcB w1 p A n c k := by
  obtain ⟨s, hB⟩ := h
  exact ⟨s, hB.below hb hp⟩
theorem SrcB.lt {w : World} {p n c k : Nat} {A : Option Addr} (h : SrcB w p A n c k) : p < w.heap.size := by
  obtain ⟨s, hB⟩ := h
  exact hB.lt

theorem rowR_new {α : Type} {enc : α → Value} {d : α} (w : World) (t : TypeId) (xs : List α) : RowR enc d (w.alloc (.cells (xs.map enc).toArray t)) w.heap.size (w.heap.size + 1) (some ⟨w.heap.size, 0, none⟩) xs.length xs :=
  ⟨rfl, fun _ => ⟨w.heap.size, 0, rfl, Nat.le_refl _, by omega, fun j hj => by
    rw [(Blk.new w t _).cell, Nat.zero_add]
    simp [List.getD_eq_getElem?_getD, List.getElem?_eq_getElem hj]⟩⟩

abbrev drawnTexts : List ByteArray := [⟨#[104, 101, 108, 108, 111]⟩, ⟨#[10]⟩, ⟨#[9]⟩, ⟨#[120]⟩, ⟨#[13]⟩, ⟨#[8]⟩, ⟨#[97, 32, 108, 111, 110, 103, 101, 114, 32, 116, 101, 120, 116, 32, 116, 104, 97, 116, 32, 119, 114, 97, 112, 115]⟩, ⟨#[12]⟩, ⟨#[7]⟩, ⟨#[49, 50]⟩]
theorem drawnTexts_size : ∀ x ∈ drawnTexts, x.size ≤ 24 := by decide

set_option maxHeartbeats 4000000 in
set_option maxRecDepth 100000 in
theorem l31Text_any (p lo hi : Nat) (A : Option Addr) (n c k : Nat) (w : World) (h : SrcB w p A n c k) (hb : BytesR w lo hi A n) (hhi : hi ≤ w.heap.size) (hk : k ≤ 800000000) (hn : n ≤ 1048576) (hp : hi ≤ p ∨ p < lo) :
    Calls Tryd.prog 13 #[.pointer (some ⟨p, 0, none⟩)] w fun e w' => ∃ t : ByteArray, t.size ≤ 120 ∧ e = .returned (.string t) ∧ ∃ k', k' ≤ k + 20 ∧ SrcB w' p A n c k' ∧ Moved p w w' := by
  have hpl := h.lt
  have HP := Lib.hid (pick_any p lo hi A n c k 5 w h hb (by omega) hn hp (by omega))
  have HB := Lib.hid hb
  clear h hb
  go_enter Tryd.func13, Tryd.ntmps13
  go_wp2_with fail
  refine HP.out.mono ?_
  rintro e1 w1 ⟨r, hr, -, rfl, k1, hk1, hk2, hs1, ht1⟩
  have hr5 := hr (by omega)
  have HS1 := Lib.hid hs1; have HM1 := Lib.hid ht1.moved
  clear hr hs1 ht1 HP
  go_wp2_with fail
  go_loopw [3, 4] (fun t kk wr => ∃ j : Nat, j ≤ 4 ∧ kk = .int .i64 j ∧ ∃ s : ByteArray, t = .string s ∧ s.size ≤ 24 * (4 - j) ∧ ∃ k', k' ≤ k + 2 + 2 * (4 - j) ∧ SrcB wr p A n c k' ∧ Moved p w wr) (fun _ kk _ => (intOf kk).toNat)
  case atStart => exact ⟨r, by omega, rfl, ⟨#[]⟩, rfl, Nat.zero_le _, k1, by omega, HS1.out, HM1.out⟩
  case round =>
    obtain ⟨j, hj, rfl, s, rfl, hss, k', hk', hs, hm⟩ := hrel
    have HS := Lib.hid hs; have HM := Lib.hid hm
    by_cases h0 : 0 < j
    · have hba := (Below.refl wr.heap.size wr).alloc (Nat.le_refl _) (.cells (drawnTexts.map Value.string).toArray 9)
      have HT := Lib.hid (srcText_any p lo hi A n c k' wr.heap.size (wr.heap.size + 1) 10 10 (some ⟨wr.heap.size, 0, none⟩) drawnTexts (wr.alloc (.cells (drawnTexts.map Value.string).toArray 9)) (hs.below hba hs.lt)
        ((HB.out.keep (fun b h1 h2 => hm.block b (by omega) (by omega))).keep (fun b h1 h2 => hba.block b (by have := hm.size; omega))) (by omega) hn hp (rowR_new wr 9 drawnTexts) (by omega) (by omega) (.inr hs.lt))
      have HBA := Lib.hid hba
      clear hs hm hba
      go_wp2_with fail
      refine HT.out.mono ?_
      rintro e2 w2 ⟨x, hx, rfl, k2, hk21, hk22, hs2, ht2⟩
      have hxs := drawnTexts_size x hx
      have HS2 := Lib.hid hs2; have HM2 := Lib.hid ((HM.out.trans (Moved.of_below HBA.out)).trans ht2.moved)
      have HSZ := Lib.hid (show (s ++ x).size = s.size + x.size from ByteArray.size_append)
      clear hs2 ht2 hx
      go_wp2_with fail
      go_roundw
      case rel => exact ⟨j - 1, by omega, by go_num, s ++ x, rfl, by rw [HSZ.out]; omega, k2, by omega, HS2.out, HM2.out⟩
      case measure => simp [intOf]; omega
    · clear hs hm
      go_wp2_with fail
      go_ret
      exact ⟨s, by omega, rfl, k', by omega, HS.out, HM.out⟩

end Go.Proofs.YtbpopkaafellgaaDoor
