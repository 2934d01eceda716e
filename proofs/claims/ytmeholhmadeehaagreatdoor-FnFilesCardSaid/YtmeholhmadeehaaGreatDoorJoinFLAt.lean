/- l31Text walked: a drawn text. -/
import Derived.Test.YtmeholhmadeehaaGreatDoorJoinFLAs
import Derived.Test.YtmeholhmadeehaaGreatDoorJoinFLAp
import Derived.Test.YtmeholhmadeehaaGreatDoorJoinFLAn
namespace Go.Proofs.YtmeholhmadeehaaGreatDoor
open Go.RowKit

/-- Block p has changed, and new blocks have come. -/
structure Moved (p : Nat) (w w' : World) : Prop where
  os : w'.os = w.os
  tape : w'.tape = w.tape
  output : w'.output = w.output
  size : w.heap.size ≤ w'.heap.size
  block : ∀ k, k < w.heap.size → k ≠ p → w'.heap[k]? = w.heap[k]?
theorem Moved.refl (p : Nat) (w : World) : Moved p w w := ⟨rfl, rfl, rfl, Nat.le_refl _, fun _ _ _ => rfl⟩
theorem Moved.trans {p : Nat} {w w1 w2 : World} (h : Moved p w w1) (k : Moved p w1 w2) : Moved p w w2 := ⟨k.os.trans h.os, k.tape.trans h.tape, k.output.trans h.output, Nat.le_trans h.size k.size, fun i hi hn => (k.block i (Nat.lt_of_lt_of_le hi h.size) hn).trans (h.block i hi hn)⟩
theorem Turned.moved {p : Nat} {w w1 : World} (h : Turned p w w1) : Moved p w w1 := ⟨h.os, h.tape, h.output, Nat.le_of_eq h.size.symm, fun k _ hn => h.block k hn⟩
theorem Moved.of_below {p : Nat} {w w1 : World} (h : Below w.heap.size w w1) : Moved p w w1 := ⟨h.os, h.tape, h.output, h.size, fun k hk _ => h.block k hk⟩
theorem Moved.below {p B : Nat} {w w1 : World} (h : Moved p w w1) (hp : B ≤ p) (hB : B ≤ w.heap.size) : Below B w w1 := ⟨h.os, h.tape, h.output, h.size, fun k hk => h.block k (by omega) (by omega)⟩
theorem SrcB.below {w w1 : World} {p n c k B : Nat} {A : Option Addr} (h : SrcB w p A n c k) (hb : Below B w w1) (hp : p < B) : SrcB w1 p A n c k := by
  obtain ⟨s, hB⟩ := h
  exact ⟨s, hB.below hb hp⟩
theorem SrcB.lt {w : World} {p n c k : Nat} {A : Option Addr} (h : SrcB w p A n c k) : p < w.heap.size := by
  obtain ⟨s, hB⟩ := h
  exact hB.lt

theorem rowR_new {α : Type} {enc : α → Value} {d : α} (w : World) (t : TypeId) (xs : List α) : RowR enc d (w.alloc (.cells (xs.map enc).toArray t)) w.heap.size (w.heap.size + 1) (some ⟨w.heap.size, 0, none⟩) xs.length xs :=
  ⟨rfl, fun _ => ⟨w.heap.size, 0, rfl, Nat.le_refl _, by omega, fun j hj => by
    rw [(Blk.new w t _).cell, Nat.zero_add]
    simp [List.getD_eq_getElem?_getD, List.getElem?_eq_getElem hj]⟩⟩

abbrev drawnTexts : List ByteArray := [⟨#[104, 101, 108, 108, 111]⟩, ⟨#[10]⟩, ⟨#[9]⟩, ⟨#[120]⟩, ⟨#[13]⟩, ⟨#[8]⟩, ⟨#[97, 32, 108, 111, 110, 103, 101, 114, 32, 116, 101, 120, 116, 32, 116, 104, 97, 116, 32, 119, 114, 97, 112, 115]⟩, ⟨#[12]⟩, ⟨#[7]⟩, ⟨#[49, 50]⟩]
theorem drawnTexts_size : ∀ x ∈ drawnTexts, x.size ≤ 24 := by decide

set_option maxHeartbeats 4000000 in
set_option maxRecDepth 100000 in
theorem l31Text_any (p lo hi : Nat) (A : Option Addr) (n c k : Nat) (w : World) (h : SrcB w p A n c k) (hb : BytesR w lo hi A n) (hhi : hi ≤ w.heap.size) (hk : k ≤ 800000000) (hn : n ≤ 1048576) (hp : hi ≤ p ∨ p < lo) :
    Calls Tryz.prog 56 #[.pointer (some ⟨p, 0, none⟩)] w fun e w' => ∃ t : ByteArray, t.size ≤ 120 ∧ e = .returned (.string t) ∧ ∃ k', k' ≤ k + 20 ∧ SrcB w' p A n c k' ∧ Moved p w w' := by
  have hpl := h.lt
  have HP := Lib.hid (pick_any p lo hi A n c k 5 w h hb (by omega) hn hp (by omega))
  have HB := Lib.hid hb
  clear h hb
  go_enter Tryz.func56, Tryz.ntmps56
  go_wp2_with fail
  refine HP.out.mono ?_
  rintro e1 w1 ⟨r, hr, -, rfl, k1, hk1, hk2, hs1, ht1⟩
  have hr5 := hr (by omega)
  have HS1 := Lib.hid hs1; have HM1 := Lib.hid ht1.moved
  clear hr hs1 ht1 HP
  go_wp2_with fail
  go_loopw [3, 4] (fun t kk wr => ∃ j : Nat, j ≤ 4 ∧ kk = .int .i64 j ∧ ∃ s : ByteArray, t = .string s ∧ s.size ≤ 24 * (4 - j) ∧ ∃ k', k' ≤ k + 2 + 2 * (4 - j) ∧ SrcB wr p A n c k' ∧ Moved p w wr) (fun _ kk _ => (intOf kk).toNat)
  case atStart => exact ⟨r, by omega, rfl, ⟨#[]⟩, rfl, Nat.zero_le _, k1, by omega, HS1.out, HM1.out⟩
  case round =>
    obtain ⟨j, hj, rfl, s, rfl, hss, k', hk', hs, hm⟩ := hrel
    have HS := Lib.hid hs; have HM := Lib.hid hm
    by_cases h0 : 0 < j
    · have hba := (Below.refl wr.heap.size wr).alloc (Nat.le_refl _) (.cells (drawnTexts.map Value.string).toArray 9)
      have HT := Lib.hid (srcText_any p lo hi A n c k' wr.heap.size (wr.heap.size + 1) 10 10 (some ⟨wr.heap.size, 0, none⟩) drawnTexts (wr.alloc (.cells (drawnTexts.map Value.string).toArray 9)) (hs.below hba hs.lt)
        ((HB.out.keep (fun b h1 h2 => hm.block b (by omega) (by omega))).keep (fun b h1 h2 => hba.block b (by have := hm.size; omega))) (by omega) hn hp (rowR_new wr 9 drawnTexts) (by omega) (by omega) (.inr hs.lt))
      have HBA := Lib.hid hba
      clear hs hm hba
      go_wp2_with fail
      refine HT.out.mono ?_
      rintro e2 w2 ⟨x, hx, rfl, k2, hk21, hk22, hs2, ht2⟩
      have hxs := drawnTexts_size x hx
      have HS2 := Lib.hid hs2; have HM2 := Lib.hid ((HM.out.trans (Moved.of_below HBA.out)).trans ht2.moved)
      have HSZ := Lib.hid (show (s ++ x).size = s.size + x.size from ByteArray.size_append)
      clear hs2 ht2 hx
      go_wp2_with fail
      go_roundw
      case rel => exact ⟨j - 1, by omega, by go_num, s ++ x, rfl, by rw [HSZ.out]; omega, k2, by omega, HS2.out, HM2.out⟩
      case measure => simp [intOf]; omega
    · clear hs hm
      go_wp2_with fail
      go_ret
      exact ⟨s, by omega, rfl, k', by omega, HS.out, HM.out⟩

end Go.Proofs.YtmeholhmadeehaaGreatDoor

/- A source is made; one of some numbers is drawn. -/
namespace Go.Proofs.YtmeholhmadeehaaGreatDoor
open Go.RowKit

set_option maxHeartbeats 4000000 in
set_option maxRecDepth 100000 in
theorem among_any (p lo hi : Nat) (A : Option Addr) (n c k lo2 hi2 m c2 : Nat) (L : Option Addr) (xs : List Int) (w : World) (h : SrcB w p A n c k) (hb : BytesR w lo hi A n) (hk : k ≤ 900000000) (hn : n ≤ 1048576) (hp : hi ≤ p ∨ p < lo) (hl : RowR (fun z => Value.int .i64 z) (0 : Int) w lo2 hi2 L m xs) (hm0 : 0 < m) (hm : m ≤ 60000) (hp2 : hi2 ≤ p ∨ p < lo2) :
    Calls Tryz.prog 117 #[.pointer (some ⟨p, 0, none⟩), .slice L m c2] w fun e w' => ∃ x ∈ xs, e = .returned (.int .i64 x) ∧ Drawn w w' p A n c k 2 := by
  have HN := Lib.hid (pick_any p lo hi A n c k m w h hb hk hn hp (by omega))
  have HL := Lib.hid hl
  clear h hb hl
  go_enter Tryz.func117, Tryz.ntmps117
  go_wp2_with fail
  refine HN.out.mono ?_
  rintro e1 w1 ⟨r, hr, hr6, rfl, k', hk1, hk2, hs1, ht1⟩
  have hrm := hr (by omega)
  have hl1 := HL.out.keep (w' := w1) (fun b h1 h2 => ht1.block b (by omega))
  obtain ⟨b, off, rfl, hb1, hb2, hcell⟩ := hl1.at_ (k := r) (by omega)
  have HX := Lib.hid (show xs.getD r 0 ∈ xs from by
    have hlen := HL.out.1
    rw [List.getD_eq_getElem?_getD, List.getElem?_eq_getElem (by omega)]
    exact List.getElem_mem _)
  have HD := Lib.hid (show Drawn w w1 p A n c k 2 from ⟨k', hk1, hk2, hs1, ht1⟩)
  have r0 : (0 : Int) ≤ (r : Int) := by omega
  clear hl1 hs1 ht1 hr
  generalize xs.getD r 0 = X at *
  go_wp2_with fail
  go_ret
  exact ⟨X, HX.out, rfl, HD.out⟩

set_option maxHeartbeats 4000000 in
set_option maxRecDepth 100000 in
theorem l00From_any (A : Option Addr) (n c : Nat) (w : World) :
    Calls Tryz.prog 55 #[.slice A n c] w fun e w' => e = .returned (.pointer (some ⟨w.heap.size, 0, none⟩)) ∧ SrcB w' w.heap.size A n c 0 ∧ Below w.heap.size w w' := by
  go_enter Tryz.func55, Tryz.ntmps55
  go_wp2_with fail
  go_ret
  refine ⟨rfl, ⟨0, ?_⟩, ?_⟩
  · first | exact Blk.new w _ _ | ((repeat' (first | (with_reducible refine Blk.new' ?_ _ _; simp; done) | with_reducible refine Blk.drew1 ?_ | with_reducible refine Blk.alloc ?_ _)))
  · (repeat' (first | exact Below.refl _ _ | refine Below.drew ?_ | refine Below.alloc ?_ (by simp <;> omega) _))

end Go.Proofs.YtmeholhmadeehaaGreatDoor

/- l31Screen walked: a drawn screen. -/
namespace Go.Proofs.YtmeholhmadeehaaGreatDoor
open Go.RowKit

/-- Under way: the result's block, x's block X, x's rows in block b. -/
structure ScnSt (w0 w : World) (p X b off cap : Nat) (A : Option Addr) (n c K : Nat) (s : Scr) : Prop where
  moved : Moved p w0 w
  src : ∃ k, k ≤ K ∧ SrcB w p A n c k
  hX : w0.heap.size < X
  hne : X ≠ b
  res : Blk w w0.heap.size 29 #[.int .i64 0, .int .i64 0, .slice none 0 0]
  blk : Blk w X 29 #[.int .i64 s.row, .int .i64 s.col, .slice (some ⟨b, off, none⟩) s.rows.length cap]
  own : OwnO w (w0.heap.size + 1) b off cap s.rows

theorem ScnSt.start {w w1 : World} {p b1 c1 n c k : Nat} {A : Option Addr} {s : Scr} (h : SrcB w p A n c k)
    (hO : OwnO w1 (w.alloc (.cells #[.int .i64 0, .int .i64 0, .slice none 0 0] 29)).heap.size b1 0 c1 s.rows)
    (hb : Below (w.alloc (.cells #[.int .i64 0, .int .i64 0, .slice none 0 0] 29)).heap.size (w.alloc (.cells #[.int .i64 0, .int .i64 0, .slice none 0 0] 29)) w1) :
    ScnSt w (w1.alloc (.cells #[.int .i64 s.row, .int .i64 s.col, .slice (some ⟨b1, 0, none⟩) s.rows.length c1] 29)) p w1.heap.size b1 0 c1 A n c k s := by
  have e0 : (w.alloc (.cells #[.int .i64 0, .int .i64 0, .slice none 0 0] 29)).heap.size = w.heap.size + 1 := by simp
  have hsz := hb.size
  rw [e0] at hsz
  have hw : Below w.heap.size w w1 := ((Below.refl w.heap.size w).alloc (Nat.le_refl _) _).trans (hb.mono (by omega))
  have h2 := (Below.refl w1.heap.size w1).alloc (Nat.le_refl _) (.cells #[.int .i64 s.row, .int .i64 s.col, .slice (some ⟨b1, 0, none⟩) s.rows.length c1] 29)
  refine ⟨Moved.of_below (hw.alloc (by omega) _), ⟨k, Nat.le_refl _, (h.below hw h.lt).below h2 (by have := h.lt; omega)⟩, by omega, by have := hO.lt; omega, ?_, Blk.new w1 _ _, ?_⟩
  · exact ((Blk.new w _ _).below hb (by omega)).below h2 (by omega)
  · exact (hO.mono (by omega)).below h2

theorem ScnSt.moves {w0 w w' : World} {p X b off cap n c K K' : Nat} {A : Option Addr} {s : Scr} (h : ScnSt w0 w p X b off cap A n c K s) (hm : Moved p w w') (hp : p < w0.heap.size) (hs : ∃ k, k ≤ K' ∧ SrcB w' p A n c k) : ScnSt w0 w' p X b off cap A n c K' s := by
  have h1 := h.hX
  have h2 := h.own.1
  exact ⟨h.moved.trans hm, hs, h.hX, h.hne, (hm.block _ h.res.lt (by omega)).trans h.res, (hm.block _ h.blk.lt (by omega)).trans h.blk, h.own.keep (hm.block _ h.own.lt (by omega))⟩

theorem ScnSt.bytes {w0 w : World} {p X b off cap n c K lo hi : Nat} {A : Option Addr} {s : Scr} (h : ScnSt w0 w p X b off cap A n c K s) (hb : BytesR w0 lo hi A n) (hhi : hi ≤ w0.heap.size) (hp : hi ≤ p ∨ p < lo) : BytesR w lo hi A n :=
  hb.keep (fun i h1 h2 => h.moved.block i (by omega) (by omega))

theorem Moved.set {p : Nat} {w w' : World} (h : Moved p w w') {q : Addr} (hq : w.heap.size ≤ q.block) (u : Value) : Moved p w (w'.setCell q u) :=
  ⟨h.os, h.tape, h.output, by simpa [World.setCell] using h.size, fun k hk hn => (Below.heap_setCell w' q u k (by omega)).trans (h.block k hk hn)⟩
theorem Moved.drew1 {p : Nat} {w w' : World} (h : Moved p w w') : Moved p w w'.drew := ⟨h.os, h.tape, h.output, h.size, h.block⟩
theorem OwnO.drew1 {w : World} {base b off cap : Nat} {xs : List ByteArray} (h : OwnO w base b off cap xs) : OwnO w.drew base b off cap xs := h.keep rfl
theorem SrcB.far {w : World} {p n c k : Nat} {A : Option Addr} (h : SrcB w p A n c k) {q : Addr} (hq : p ≠ q.block) (u : Value) : SrcB (w.setCell q u) p A n c k := by
  obtain ⟨s, hB⟩ := h
  exact ⟨s, (Below.heap_setCell w q u p hq).trans hB⟩
theorem ScnSt.store {w0 w : World} {p X b off cap n c K : Nat} {A : Option Addr} {s s' : Scr} (h : ScnSt w0 w p X b off cap A n c K s) (hp : p < w0.heap.size) {B b' off' cap' : Nat} (hO : OwnO w B b' off' cap' s'.rows) (hB : X < B) :
    ScnSt w0 (((w.setCell ⟨X, 0, none⟩ (.int .i64 s'.row)).setCell ⟨X, 1, none⟩ (.int .i64 s'.col)).setCell ⟨X, 2, none⟩ (.slice (some ⟨b', off', none⟩) s'.rows.length cap')) p X b' off' cap' A n c K s' := by
  have h1 := h.hX
  have h2 := hO.1
  obtain ⟨k, hk, hs⟩ := h.src
  refine ⟨((h.moved.set (q := ⟨X, 0, none⟩) (by show _ ≤ X; omega) _).set (q := ⟨X, 1, none⟩) (by show _ ≤ X; omega) _).set (q := ⟨X, 2, none⟩) (by show _ ≤ X; omega) _, ⟨k, hk, ((hs.far (q := ⟨X, 0, none⟩) (by show _ ≠ X; omega) _).far (q := ⟨X, 1, none⟩) (by show _ ≠ X; omega) _).far (q := ⟨X, 2, none⟩) (by show _ ≠ X; omega) _⟩, h.hX, by omega, ?_, ((h.blk.set_ 0 _).set_ 1 _).set_ 2 _, ?_⟩
  · refine Eq.trans ?_ h.res
    rw [Below.heap_setCell _ _ _ _ (by show _ ≠ X; omega), Below.heap_setCell _ _ _ _ (by show _ ≠ X; omega), Below.heap_setCell _ _ _ _ (by show _ ≠ X; omega)]
  · refine OwnO.mono (base := B) ?_ (by omega)
    exact ((hO.far (p := ⟨X, 0, none⟩) (by show _ ≠ X; omega) _).far (p := ⟨X, 1, none⟩) (by show _ ≠ X; omega) _).far (p := ⟨X, 2, none⟩) (by show _ ≠ X; omega) _

set_option maxHeartbeats 4000000 in
set_option maxRecDepth 100000 in
theorem l31Screen_any (p lo hi : Nat) (A : Option Addr) (n c k : Nat) (w : World) (h : SrcB w p A n c k) (hb : BytesR w lo hi A n) (hhi : hi ≤ w.heap.size) (hk : k ≤ 700000000) (hn : n ≤ 1048576) (hp : hi ≤ p ∨ p < lo) :
    Calls Tryz.prog 96 #[.pointer (some ⟨p, 0, none⟩)] w fun e w' => ∃ (s : Scr) (b off cap : Nat), s.rows.length = 6 ∧ (∀ r ∈ s.rows, r.size ≤ 21) ∧ e = .returned (.agg #[.int .i64 s.row, .int .i64 s.col, .slice (some ⟨b, off, none⟩) s.rows.length cap]) ∧ OwnO w' w.heap.size b off cap s.rows ∧ Moved p w w' := by
  have hpl := h.lt
  have HS := Lib.hid h
  have HB := Lib.hid hb
  have HP := Lib.hid (fun W k' m (h : SrcB W p A n c k') h2 (h3 : k' ≤ 900000000) h4 => pick_any p lo hi A n c k' m W h h2 h3 hn hp h4)
  clear h hb
  go_enter Tryz.func96, Tryz.ntmps96
  go_wp2_with fail
  refine (specNewScreen_any _).mono ?_
  rintro e1 w1 ⟨v1, rfl, ⟨A1, c1, rfl, ho1⟩, hb1⟩
  obtain ⟨b1, rfl, hO1⟩ := OwnO.of_own ho1 (by simp [blankScr])
  have HO1 := Lib.hid hO1; have HB1 := Lib.hid hb1
  clear ho1 hO1 hb1
  have HST := Lib.hid (ScnSt.start HS.out HO1.out HB1.out)
  obtain ⟨k1, hk1, hs1⟩ := HST.out.src
  have HP1 := Lib.hid (HP.out _ k1 5 hs1 (HST.out.bytes HB.out hhi hp) (by omega) (by omega))
  clear hs1
  go_wp2_with fail
  refine HP1.out.mono ?_
  rintro e2 w2 ⟨r, hr, -, rfl, k2, hk21, hk22, hs2, ht2⟩
  have hr5 := hr (by omega)
  have HST2 := Lib.hid (HST.out.moves ht2.moved HS.out.lt ⟨k2, (by omega : k2 ≤ k + 2), hs2⟩)
  clear HST HP1 hs2 ht2 hr HO1 HB1
  generalize w1.heap.size = X at *
  go_wp2_with fail
  go_loopw [4] (fun kk wr => ∃ j : Nat, j ≤ 4 ∧ kk = .int .i64 j ∧ ∃ (s : Scr) (b off cap : Nat), Fine s ∧ ScnSt w wr p X b off cap A n c (k + 2 + 20 * (4 - j)) s) (fun kk _ => (intOf kk).toNat)
  case atStart => exact ⟨r, by omega, rfl, blankScr, b1, 0, c1, blank_fine, ⟨HST2.out.moved, (by obtain ⟨q, hq, hsq⟩ := HST2.out.src; exact ⟨q, by omega, hsq⟩), HST2.out.hX, HST2.out.hne, HST2.out.res, HST2.out.blk, HST2.out.own⟩⟩
  case round =>
    obtain ⟨j, hj, rfl, s, b, off, cap, hf, hst⟩ := hrel
    have HW := Lib.hid hst; have HF := Lib.hid hf
    have f := hst.blk.cell
    have z := hst.blk.frozen
    clear hst hf HST2
    by_cases h0 : 0 < j
    · obtain ⟨k3, hk3, hs3⟩ := HW.out.src
      have HD := Lib.hid (HW.out.moves (w' := wr.drew) ⟨rfl, rfl, rfl, Nat.le_refl _, fun _ _ _ => rfl⟩ HS.out.lt ⟨k3, hk3, hs3⟩)
      have HT := Lib.hid (l31Text_any p lo hi A n c k3 wr.drew hs3 (HD.out.bytes HB.out hhi hp) (by have := HD.out.moved.size; omega) (by omega) hn hp)
      clear hs3
      go_wp2_with fail
      refine AnyT.region (fun i => decide (3 ≤ i)) (fun w' => ∀ i, w'.cell? ⟨X, i, none⟩ = (#[.int .i64 s.row, .int .i64 s.col, .slice (some ⟨b, off, none⟩) s.rows.length cap] : Array Value)[i]?) (by kernel_rfl) f (fun hHeld => ?_)
      ((refine AnyT.take 0 12 ?_ rfl (by kernel_rfl) (by kernel_rfl) (by kernel_rfl) (by kernel_rfl) rfl (by kernel_rfl) rfl (fun _ _ _ _ h => h) rfl ?_ (by assumption) ?_); rotate_left; (intro w hSw; (try dsimp only at hSw); go_simp; (try (with_reducible rfl))); simp only [Act.put, List.setIfInBounds_toArray, List.set_cons_zero, List.set_cons_succ])
      ((refine AnyT.takeAny 1 13 ?_ rfl (by kernel_rfl) (by kernel_rfl) (by kernel_rfl) rfl rfl (fun _ _ _ _ h => h) rfl ?_ (by assumption) ?_); rotate_left; (intro w; go_simp; (try (with_reducible rfl))); simp only [Act.put, List.setIfInBounds_toArray, List.set_cons_zero, List.set_cons_succ])
      ((refine AnyT.one (i := 2) (by kernel_rfl) rfl (fun K hK => ?_)))
      go_simp
      refine HT.out.mono ?_
      rintro e3 w3 ⟨t3, ht3, rfl, k4, hk4, hs4, hm4⟩
      have HW3 := Lib.hid (HD.out.moves hm4 HS.out.lt ⟨k4, (by omega : k4 ≤ k + 2 + 20 * (4 - j) + 20), hs4⟩)
      have f3 := HW3.out.blk.cell
      have HL := Lib.hid (l31Show_own s t3 (.agg #[.int .i64 s.row, .int .i64 s.col, .slice (some ⟨b, off, none⟩) s.rows.length cap]) 0 w3.heap.size w3 ⟨_, _, rfl, (HW3.out.own.reads).more (Nat.zero_le _) (Nat.le_refl _)⟩ (Nat.le_refl _) HF.out (by omega))
      clear hs4 hm4 HT f z
      refine hK.out _ _ f3 (fun hHeld => ?_)
      clear hK K
      (try simp only [Act.put, List.setIfInBounds_toArray, List.set_cons_zero, List.set_cons_succ])
      have HFS := Lib.hid (showTo_fine HF.out t3 t3.size)
      ((refine AnyT.last (i := 3) (by kernel_rfl) rfl (by kernel_rfl) (fun K hK => ?_)))
      go_simp
      refine HL.out.mono ?_
      rintro e4 w4 ⟨S4, b4, off4, cap4, hS4, rfl, hO4, hb4⟩
      rw [← hS4] at HFS
      have hXl := HW3.out.blk.lt
      have HW4 := Lib.hid (HW3.out.moves (Moved.of_below hb4) HS.out.lt (by obtain ⟨q, hq, hsq⟩ := HW3.out.src; exact ⟨q, hq, hsq.below hb4 hsq.lt⟩))
      have HW5 := Lib.hid (HW4.out.store HS.out.lt hO4 hXl)
      have f4 := HW4.out.blk.cell
      have z4 := HW4.out.blk.frozen
      clear hO4 hb4 hS4 f3 HL
      refine hK.out _ _ ?_
      clear hK K
      (try simp only [Act.put, List.setIfInBounds_toArray, List.set_cons_zero, List.set_cons_succ])
      ((refine AnyT.last (i := 4) (by kernel_rfl) rfl (by kernel_rfl) (fun K hK => ?_)))
      go_simp
      refine hK.out _ _ ?_
      clear hK K
      (try simp only [Act.put, List.setIfInBounds_toArray, List.set_cons_zero, List.set_cons_succ])
      refine AnyT.done (by kernel_rfl) ?_ _
      go_wp2_with fail
      go_roundw
      case rel => exact ⟨j - 1, by omega, by go_num, S4, b4, off4, cap4, HFS.out, ⟨HW5.out.moved, (by obtain ⟨q, hq, hsq⟩ := HW5.out.src; exact ⟨q, by omega, hsq⟩), HW5.out.hX, HW5.out.hne, HW5.out.res, HW5.out.blk, HW5.out.own⟩⟩
      case measure => simp [intOf]; omega
    · obtain ⟨k3, hk3, hs3⟩ := HW.out.src
      have HP2 := Lib.hid (HP.out wr k3 16 hs3 (HW.out.bytes HB.out hhi hp) (by omega) (by omega))
      clear hs3
      go_wp2_with fail
      refine HP2.out.mono ?_
      rintro e5 w5 ⟨r5, hr5', -, rfl, k5, hk51, hk52, hs5, ht5⟩
      have hr16 := hr5' (by omega)
      have HW5 := Lib.hid (HW.out.moves ht5.moved HS.out.lt ⟨k5, (by omega : k5 ≤ k + 84), hs5⟩)
      have f5 := HW5.out.blk.cell
      have z5 := HW5.out.blk.frozen
      clear HP2 hs5 ht5 hr5' f z
      by_cases c0 : r5 = 0
      · subst c0
        have hba := (Below.refl w5.heap.size w5).alloc (Nat.le_refl _) (.cells ([-1, 5, 6].map (fun z : Int => Value.int .i64 z)).toArray 2)
        have HW6 := Lib.hid (HW5.out.moves (Moved.of_below hba) HS.out.lt (by obtain ⟨q, hq, hsq⟩ := HW5.out.src; exact ⟨q, hq, hsq.below hba hsq.lt⟩))
        obtain ⟨k6, hk6, hs6⟩ := HW6.out.src
        have HA := Lib.hid (among_any p lo hi A n c k6 w5.heap.size (w5.heap.size + 1) 3 3 _ [-1, 5, 6] _ hs6 (HW6.out.bytes HB.out hhi hp) (by omega) hn hp (rowR_new w5 2 [-1, 5, 6]) (by omega) (by omega) (.inr (by have := HW5.out.moved.size; have := HS.out.lt; omega)))
        clear hba hs6
        go_wp2_with fail
        refine HA.out.mono ?_
        rintro e7 w7 ⟨y, hy, rfl, k7, hk71, hk72, hs7, ht7⟩
        have HW7 := Lib.hid (HW6.out.moves ht7.moved HS.out.lt ⟨k7, (by omega : k7 ≤ k + 86), hs7⟩)
        have f7 := HW7.out.blk.cell
        have z7 := HW7.out.blk.frozen
        have f8 := HW7.out.res.cell
        have z8 := HW7.out.res.frozen
        have hX8 := HW7.out.hX
        have hX9 : ¬ X = w.heap.size := by omega
        have hX7 : ¬ w.heap.size = X := by omega
        clear hs7 ht7 hy f5 z5 HA
        have hl6 := HF.out.len
        have HLR := Lib.hid (And.intro hl6 (fun r hr => Nat.le_of_eq (HF.out.size r hr) : ∀ r ∈ s.rows, r.size ≤ 20))
        have HO7 := Lib.hid HW7.out.own; have HM7 := Lib.hid HW7.out.moved
        have hOX : b ≠ X := fun e => HW7.out.hne e.symm
        have hOw : w.heap.size + 1 ≤ b := HW7.out.own.1
        clear hl6
        go_wp2_with fail
        refine bodyPost_ret (v := .agg #[.int .i64 y, .int .i64 s.col, .slice (some ⟨b, off, none⟩) s.rows.length cap]) (by simp [results, Tryz.results96, go_sem, f8, hX9, hX7]) rfl ⟨⟨y, s.col, s.rows⟩, b, off, cap, HLR.out.1, fun r hr => by have := HLR.out.2 r hr; omega, rfl, ?_, ?_⟩
        · refine OwnO.mono (base := w.heap.size + 1) ?_ (by omega)
          repeat' (with_reducible refine OwnO.far ?_ (by simp; try omega) _)
          exact HO7.out
        · repeat' (with_reducible refine Moved.set ?_ (by simp; try omega) _)
          exact HM7.out
      · by_cases c1' : r5 = 1
        · subst c1'
          have hba := (Below.refl w5.heap.size w5).alloc (Nat.le_refl _) (.cells ([-1, 19, 20].map (fun z : Int => Value.int .i64 z)).toArray 2)
          have HW6 := Lib.hid (HW5.out.moves (Moved.of_below hba) HS.out.lt (by obtain ⟨q, hq, hsq⟩ := HW5.out.src; exact ⟨q, hq, hsq.below hba hsq.lt⟩))
          obtain ⟨k6, hk6, hs6⟩ := HW6.out.src
          have HA := Lib.hid (among_any p lo hi A n c k6 w5.heap.size (w5.heap.size + 1) 3 3 _ [-1, 19, 20] _ hs6 (HW6.out.bytes HB.out hhi hp) (by omega) hn hp (rowR_new w5 2 [-1, 19, 20]) (by omega) (by omega) (.inr (by have := HW5.out.moved.size; have := HS.out.lt; omega)))
          clear hba hs6
          go_wp2_with fail
          refine HA.out.mono ?_
          rintro e7 w7 ⟨y, hy, rfl, k7, hk71, hk72, hs7, ht7⟩
          have HW7 := Lib.hid (HW6.out.moves ht7.moved HS.out.lt ⟨k7, (by omega : k7 ≤ k + 86), hs7⟩)
          have f7 := HW7.out.blk.cell
          have z7 := HW7.out.blk.frozen
          have f8 := HW7.out.res.cell
          have z8 := HW7.out.res.frozen
          have hX8 := HW7.out.hX
          have hX9 : ¬ X = w.heap.size := by omega
          have hX7 : ¬ w.heap.size = X := by omega
          clear hs7 ht7 hy f5 z5 HA
          have hl6 := HF.out.len
          have HLR := Lib.hid (And.intro hl6 (fun r hr => Nat.le_of_eq (HF.out.size r hr) : ∀ r ∈ s.rows, r.size ≤ 20))
          have HO7 := Lib.hid HW7.out.own; have HM7 := Lib.hid HW7.out.moved
          have hOX : b ≠ X := fun e => HW7.out.hne e.symm
          have hOw : w.heap.size + 1 ≤ b := HW7.out.own.1
          clear hl6
          go_wp2_with fail
          refine bodyPost_ret (v := .agg #[.int .i64 s.row, .int .i64 y, .slice (some ⟨b, off, none⟩) s.rows.length cap]) (by simp [results, Tryz.results96, go_sem, f8, hX9, hX7]) rfl ⟨⟨s.row, y, s.rows⟩, b, off, cap, HLR.out.1, fun r hr => by have := HLR.out.2 r hr; omega, rfl, ?_, ?_⟩
          · refine OwnO.mono (base := w.heap.size + 1) ?_ (by omega)
            repeat' (with_reducible refine OwnO.far ?_ (by simp; try omega) _)
            exact HO7.out
          · repeat' (with_reducible refine Moved.set ?_ (by simp; try omega) _)
            exact HM7.out
        · by_cases c2' : r5 = 2
          · subst c2'
            have g0 := HW5.out.own.get (j := 0) (by have := HF.out.len; omega)
            have zb := HW5.out.own.frozen
            rw [Nat.add_zero] at g0
            have hl6 := HF.out.len
            generalize hrow : s.rows.getD 0 ByteArray.empty = row0 at *
            have l0 : 0 < s.rows.length := by omega
            go_wp2_with fail
            refine AnyT.region (fun i => decide (8 ≤ i)) (fun w' => (∀ i, w'.cell? ⟨X, i, none⟩ = (#[.int .i64 s.row, .int .i64 s.col, .slice (some ⟨b, off, none⟩) s.rows.length cap] : Array Value)[i]?) ∧ w'.cell? ⟨b, off, none⟩ = some (.string row0)) (by kernel_rfl) ⟨f5, g0⟩ (fun hHeld => ?_)
            have hr20 : row0.size = 20 := HF.out.size row0 (by rw [← hrow, List.getD_eq_getElem?_getD, List.getElem?_eq_getElem l0]; exact List.getElem_mem _)
            have HNS := Lib.hid (show (row0 ++ (⟨#[33]⟩ : ByteArray)).size = row0.size + 1 by rw [ByteArray.size_append]; rfl)
            have hbig : ¬ (9223372036854775807 < row0.size + 1) := by omega
            have HR20 := Lib.hid hr20
            clear hr20
            ((refine AnyT.takeAny 0 32 ?_ rfl (by kernel_rfl) (by kernel_rfl) (by kernel_rfl) rfl rfl (fun _ _ _ _ h => h) rfl ?_ (by assumption) ?_); rotate_left; (intro w; go_simp; (try (with_reducible rfl))); simp only [Act.put, List.setIfInBounds_toArray, List.set_cons_zero, List.set_cons_succ])
            ((refine AnyT.take 1 33 ?_ rfl (by kernel_rfl) (by kernel_rfl) (by kernel_rfl) (by kernel_rfl) rfl (by kernel_rfl) rfl (fun _ _ _ _ h => h) rfl ?_ (by assumption) ?_); rotate_left; (intro w hSw; (try dsimp only at hSw); go_simp; (try (with_reducible rfl))); simp only [Act.put, List.setIfInBounds_toArray, List.set_cons_zero, List.set_cons_succ])
            ((refine AnyT.takeAny 2 34 ?_ rfl (by kernel_rfl) (by kernel_rfl) (by kernel_rfl) rfl rfl (fun _ _ _ _ h => h) rfl ?_ (by assumption) ?_); rotate_left; (intro w; go_simp; (try (with_reducible rfl))); simp only [Act.put, List.setIfInBounds_toArray, List.set_cons_zero, List.set_cons_succ])
            ((refine AnyT.take 3 35 ?_ rfl (by kernel_rfl) (by kernel_rfl) (by kernel_rfl) (by kernel_rfl) rfl (by kernel_rfl) rfl (fun _ _ _ _ h => h) rfl ?_ (by assumption) ?_); rotate_left; (intro w hSw; (try dsimp only at hSw); go_simp; (try (with_reducible rfl))); simp only [Act.put, List.setIfInBounds_toArray, List.set_cons_zero, List.set_cons_succ])
            ((refine AnyT.takeAny 4 36 ?_ rfl (by kernel_rfl) (by kernel_rfl) (by kernel_rfl) rfl rfl (fun _ _ _ _ h => h) rfl ?_ (by assumption) ?_); rotate_left; (intro w; go_simp; (try (with_reducible rfl))); simp only [Act.put, List.setIfInBounds_toArray, List.set_cons_zero, List.set_cons_succ])
            ((refine AnyT.take 5 37 ?_ rfl (by kernel_rfl) (by kernel_rfl) (by kernel_rfl) (by kernel_rfl) rfl (by kernel_rfl) rfl (fun _ _ _ _ h => h) rfl ?_ (by assumption) ?_); rotate_left; (intro w hSw; (try dsimp only at hSw); go_simp; (try (with_reducible rfl))); simp only [Act.put, List.setIfInBounds_toArray, List.set_cons_zero, List.set_cons_succ])
            ((refine AnyT.takeAny 6 38 ?_ rfl (by kernel_rfl) (by kernel_rfl) (by kernel_rfl) rfl rfl (fun _ _ _ _ h => h) rfl ?_ (by assumption) ?_); rotate_left; (intro w; go_simp; (try (with_reducible rfl))); simp only [Act.put, List.setIfInBounds_toArray, List.set_cons_zero, List.set_cons_succ])
            ((refine AnyT.takeAny 7 39 ?_ rfl (by kernel_rfl) (by kernel_rfl) (by kernel_rfl) rfl rfl (fun _ _ _ _ h => h) rfl ?_ (by assumption) ?_); rotate_left; (intro w; go_simp; (try (with_reducible rfl))); simp only [Act.put, List.setIfInBounds_toArray, List.set_cons_zero, List.set_cons_succ])
            ((refine AnyT.last (i := 8) (by kernel_rfl) rfl (by kernel_rfl) (fun K hK => ?_)))
            go_simp
            refine hK.out _ _ ?_
            clear hK K
            (try simp only [Act.put, List.setIfInBounds_toArray, List.set_cons_zero, List.set_cons_succ])
            refine AnyT.done (by kernel_rfl) ?_ _
            have hXb : X ≠ b := HW5.out.hne
            have hbX : b ≠ X := fun e => hXb e.symm
            have hOw : w.heap.size + 1 ≤ b := HW5.out.own.1
            have HO7 := Lib.hid (HW5.out.own.put (j := 0) l0 (row0 ++ ⟨#[33]⟩)); have HM7 := Lib.hid HW5.out.moved
            have f8 := HW5.out.res.cell
            have z8 := HW5.out.res.frozen
            have hX8 := HW5.out.hX
            have hX9 : ¬ X = w.heap.size := by omega
            have hX7 : ¬ w.heap.size = X := by omega
            have hb9 : ¬ b = w.heap.size := by omega
            have hb7 : ¬ w.heap.size = b := by omega
            have HLR := Lib.hid (And.intro hl6 (fun r hr => Nat.le_of_eq (HF.out.size r hr) : ∀ r ∈ s.rows, r.size ≤ 20))
            clear hl6 hrow
            go_wp2_with fail
            refine bodyPost_ret (v := .agg #[.int .i64 s.row, .int .i64 s.col, .slice (some ⟨b, off, none⟩) s.rows.length cap]) (by simp [results, Tryz.results96, go_sem, f8, hX9, hX7, hb9, hb7]) rfl ⟨⟨s.row, s.col, s.rows.set 0 (row0 ++ ⟨#[33]⟩)⟩, b, off, cap, by rw [List.length_set]; exact HLR.out.1, fun r hr => ?_, by simp, ?_, ?_⟩
            · rcases List.mem_or_eq_of_mem_set hr with h | h
              · have := HLR.out.2 r h; omega
              · rw [h, HNS.out, HR20.out]; omega
            · refine OwnO.mono (base := w.heap.size + 1) ?_ (by omega)
              with_reducible refine OwnO.drew1 ?_
              iterate 3 (with_reducible refine OwnO.far ?_ (by simp; try omega) _)
              exact HO7.out
            · with_reducible refine Moved.drew1 ?_
              repeat' (with_reducible refine Moved.set ?_ (by simp; try omega) _)
              exact HM7.out
          · by_cases c3' : r5 = 3
            · subst c3'
              have g0 := HW5.out.own.get (j := 1) (by have := HF.out.len; omega)
              have zb := HW5.out.own.frozen
              have hl6 := HF.out.len
              generalize hrow : s.rows.getD 1 ByteArray.empty = row1 at *
              have l0 : 1 < s.rows.length := by omega
              go_wp2_with fail
              refine AnyT.region (fun i => decide (9 ≤ i)) (fun w' => (∀ i, w'.cell? ⟨X, i, none⟩ = (#[.int .i64 s.row, .int .i64 s.col, .slice (some ⟨b, off, none⟩) s.rows.length cap] : Array Value)[i]?) ∧ w'.cell? ⟨b, off + 1, none⟩ = some (.string row1)) (by kernel_rfl) ⟨f5, g0⟩ (fun hHeld => ?_)
              have hr20 : row1.size = 20 := HF.out.size row1 (by rw [← hrow, List.getD_eq_getElem?_getD, List.getElem?_eq_getElem l0]; exact List.getElem_mem _)
              have HNS := Lib.hid (show ((⟨#[10]⟩ : ByteArray) ++ row1.extract 1 row1.size).size = 20 by rw [ByteArray.size_append, ByteArray.size_extract, hr20]; rfl)
              have hlow : (1 : Int) ≤ (row1.size : Int) := by omega
              have hbig : ¬ (9223372036854775807 < 1 + (row1.size - 1)) := by omega
              have HR20 := Lib.hid hr20
              clear hr20
              ((refine AnyT.takeAny 0 42 ?_ rfl (by kernel_rfl) (by kernel_rfl) (by kernel_rfl) rfl rfl (fun _ _ _ _ h => h) rfl ?_ (by assumption) ?_); rotate_left; (intro w; go_simp; (try (with_reducible rfl))); simp only [Act.put, List.setIfInBounds_toArray, List.set_cons_zero, List.set_cons_succ])
              ((refine AnyT.take 1 43 ?_ rfl (by kernel_rfl) (by kernel_rfl) (by kernel_rfl) (by kernel_rfl) rfl (by kernel_rfl) rfl (fun _ _ _ _ h => h) rfl ?_ (by assumption) ?_); rotate_left; (intro w hSw; (try dsimp only at hSw); go_simp; (try (with_reducible rfl))); simp only [Act.put, List.setIfInBounds_toArray, List.set_cons_zero, List.set_cons_succ])
              ((refine AnyT.takeAny 2 44 ?_ rfl (by kernel_rfl) (by kernel_rfl) (by kernel_rfl) rfl rfl (fun _ _ _ _ h => h) rfl ?_ (by assumption) ?_); rotate_left; (intro w; go_simp; (try (with_reducible rfl))); simp only [Act.put, List.setIfInBounds_toArray, List.set_cons_zero, List.set_cons_succ])
              ((refine AnyT.take 3 45 ?_ rfl (by kernel_rfl) (by kernel_rfl) (by kernel_rfl) (by kernel_rfl) rfl (by kernel_rfl) rfl (fun _ _ _ _ h => h) rfl ?_ (by assumption) ?_); rotate_left; (intro w hSw; (try dsimp only at hSw); go_simp; (try (with_reducible rfl))); simp only [Act.put, List.setIfInBounds_toArray, List.set_cons_zero, List.set_cons_succ])
              ((refine AnyT.takeAny 4 46 ?_ rfl (by kernel_rfl) (by kernel_rfl) (by kernel_rfl) rfl rfl (fun _ _ _ _ h => h) rfl ?_ (by assumption) ?_); rotate_left; (intro w; go_simp; (try (with_reducible rfl))); simp only [Act.put, List.setIfInBounds_toArray, List.set_cons_zero, List.set_cons_succ])
              ((refine AnyT.take 5 47 ?_ rfl (by kernel_rfl) (by kernel_rfl) (by kernel_rfl) (by kernel_rfl) rfl (by kernel_rfl) rfl (fun _ _ _ _ h => h) rfl ?_ (by assumption) ?_); rotate_left; (intro w hSw; (try dsimp only at hSw); go_simp; (try (with_reducible rfl))); simp only [Act.put, List.setIfInBounds_toArray, List.set_cons_zero, List.set_cons_succ])
              (refine AnyT.takeAny 6 48 (.string (row1.extract 1 row1.size)) rfl (by kernel_rfl) (by kernel_rfl) (by kernel_rfl) rfl rfl (fun _ _ _ _ h => h) rfl (fun w => by go_simp) (by assumption) ?_)
              simp only [Act.put, List.setIfInBounds_toArray, List.set_cons_zero, List.set_cons_succ]
              ((refine AnyT.takeAny 7 49 ?_ rfl (by kernel_rfl) (by kernel_rfl) (by kernel_rfl) rfl rfl (fun _ _ _ _ h => h) rfl ?_ (by assumption) ?_); rotate_left; (intro w; go_simp; (try (with_reducible rfl))); simp only [Act.put, List.setIfInBounds_toArray, List.set_cons_zero, List.set_cons_succ])
              ((refine AnyT.takeAny 8 50 ?_ rfl (by kernel_rfl) (by kernel_rfl) (by kernel_rfl) rfl rfl (fun _ _ _ _ h => h) rfl ?_ (by assumption) ?_); rotate_left; (intro w; go_simp; (try (with_reducible rfl))); simp only [Act.put, List.setIfInBounds_toArray, List.set_cons_zero, List.set_cons_succ])
              ((refine AnyT.last (i := 9) (by kernel_rfl) rfl (by kernel_rfl) (fun K hK => ?_)))
              go_simp
              refine hK.out _ _ ?_
              clear hK K
              (try simp only [Act.put, List.setIfInBounds_toArray, List.set_cons_zero, List.set_cons_succ])
              refine AnyT.done (by kernel_rfl) ?_ _
              have hXb : X ≠ b := HW5.out.hne
              have hbX : b ≠ X := fun e => hXb e.symm
              have hOw : w.heap.size + 1 ≤ b := HW5.out.own.1
              have HO7 := Lib.hid (HW5.out.own.put (j := 1) l0 ((⟨#[10]⟩ : ByteArray) ++ row1.extract 1 row1.size)); have HM7 := Lib.hid HW5.out.moved
              have f8 := HW5.out.res.cell
              have z8 := HW5.out.res.frozen
              have hX8 := HW5.out.hX
              have hX9 : ¬ X = w.heap.size := by omega
              have hX7 : ¬ w.heap.size = X := by omega
              have hb9 : ¬ b = w.heap.size := by omega
              have hb7 : ¬ w.heap.size = b := by omega
              have HLR := Lib.hid (And.intro hl6 (fun r hr => Nat.le_of_eq (HF.out.size r hr) : ∀ r ∈ s.rows, r.size ≤ 20))
              clear hl6 hrow
              go_wp2_with fail
              refine bodyPost_ret (v := .agg #[.int .i64 s.row, .int .i64 s.col, .slice (some ⟨b, off, none⟩) s.rows.length cap]) (by simp [results, Tryz.results96, go_sem, f8, hX9, hX7, hb9, hb7]) rfl ⟨⟨s.row, s.col, s.rows.set 1 ((⟨#[10]⟩ : ByteArray) ++ row1.extract 1 row1.size)⟩, b, off, cap, by rw [List.length_set]; exact HLR.out.1, fun r hr => ?_, by simp, ?_, ?_⟩
              · rcases List.mem_or_eq_of_mem_set hr with h | h
                · have := HLR.out.2 r h; omega
                · rw [h, HNS.out]; omega
              · refine OwnO.mono (base := w.heap.size + 1) ?_ (by omega)
                with_reducible refine OwnO.drew1 ?_
                iterate 3 (with_reducible refine OwnO.far ?_ (by simp; try omega) _)
                exact HO7.out
              · with_reducible refine Moved.drew1 ?_
                repeat' (with_reducible refine Moved.set ?_ (by simp; try omega) _)
                exact HM7.out
            · have q0 : ((r5 : Int) == 0) = false := by simp; omega
              have q1 : ((r5 : Int) == 1) = false := by simp; omega
              have q2 : ((r5 : Int) == 2) = false := by simp; omega
              have q3 : ((r5 : Int) == 3) = false := by simp; omega
              have f8 := HW5.out.res.cell
              have z8 := HW5.out.res.frozen
              have hX8 := HW5.out.hX
              have hX9 : ¬ X = w.heap.size := by omega
              have hX7 : ¬ w.heap.size = X := by omega
              have hl6 := HF.out.len
              have HLR := Lib.hid (And.intro hl6 (fun r hr => Nat.le_of_eq (HF.out.size r hr) : ∀ r ∈ s.rows, r.size ≤ 20))
              have HO7 := Lib.hid HW5.out.own; have HM7 := Lib.hid HW5.out.moved
              have hOX : b ≠ X := fun e => HW5.out.hne e.symm
              have hOw : w.heap.size + 1 ≤ b := HW5.out.own.1
              clear hl6 c0 c1' c2' c3'
              go_wp2_with fail
              refine bodyPost_ret (v := .agg #[.int .i64 s.row, .int .i64 s.col, .slice (some ⟨b, off, none⟩) s.rows.length cap]) (by simp [results, Tryz.results96, go_sem, f8, hX9, hX7]) rfl ⟨⟨s.row, s.col, s.rows⟩, b, off, cap, HLR.out.1, fun r hr => by have := HLR.out.2 r hr; omega, rfl, ?_, ?_⟩
              · refine OwnO.mono (base := w.heap.size + 1) ?_ (by omega)
                repeat' (with_reducible refine OwnO.far ?_ (by simp; try omega) _)
                exact HO7.out
              · repeat' (with_reducible refine Moved.set ?_ (by simp; try omega) _)
                exact HM7.out
end Go.Proofs.YtmeholhmadeehaaGreatDoor
