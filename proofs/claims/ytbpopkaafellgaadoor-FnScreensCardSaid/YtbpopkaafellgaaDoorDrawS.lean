/- A source is made; one of some numbers is drawn. -/
import Derived.Test.YtbpopkaafellgaaDoorDrawT
namespace Go.Proofs.YtbpopkaafellgaaDoor
open Go.RowKit

set_option maxHeartbeats 4000000 in
set_option maxRecDepth 100000 in
theorem among_any (p lo hi : Nat) (A : Option Addr) (n c k lo2 hi2 m c2 : Nat) (L : Option Addr) (xs : List Int) (w : World) (h : SrcB w p A n c k) (hb : BytesR w lo hi A n) (hk : k ≤ 900000000) (hn : n ≤ 1048576) (hp : hi ≤ p ∨ p < lo) (hl : RowR (fun z => Value.int .i64 z) (0 : Int) w lo2 hi2 L m xs) (hm0 : 0 < m) (hm : m ≤ 60000) (hp2 : hi2 ≤ p ∨ p < lo2) :
    Calls Tryd.prog 26 #[.pointer (some ⟨p, 0, none⟩), .slice L m c2] w fun e w' => ∃ x ∈ xs, e = .returned (.int .i64 x) ∧ Drawn w w' p A n c k 2 := by
  have HN := Lib.hid (pick_any p lo hi A n c k m w h hb hk hn hp (by omega))
  have HL := Lib.hid hl
  clear h hb hl
  go_enter Tryd.func26, Tryd.ntmps26
  go_wp2_with fail
  refine HN.out.mono ?_
  rintro e1 w1 ⟨r, hr, hr6, rfl, k', hk1, hk2, hs1, ht1⟩
  have hrm := hr (by omega)
  have hl1 := HL.out.keep (w' := w1) (fun b h1 h2 => ht1.block b (by omega))
  obtain ⟨b, off, rfl, hb1, hb2, hcell⟩ := hl1.at_ (k := r) (by omega)
  have HX := Lib.hid (show xs.getD r 0 ∈ xs from by
    have hlen := HL.out.1
    rw [List.getD_eq_getElem?_getD, List.getElem?_eq_getElem (by omega)]
    exact List.getElem_mem _)
  have HD := Lib.hid (show Drawn w w1 p A n c k 2 from ⟨k', hk1, hk2, hs1, ht1⟩)
  have r0 : (0 : Int) ≤ (r : Int) := by omega
  clear hl1 hs1 ht1 hr
  generalize xs.getD r 0 = X at *
  go_wp2_with fail
  go_ret
  exact ⟨X, HX.out, rfl, HD.out⟩

set_option maxHeartbeats 4000000 in
set_option maxRecDepth 100000 in
theorem l00From_any (A : Option Addr) (n c : Nat) (w : World) :
    Calls Tryd.prog 12 #[.slice A n c] w fun e w' => e = .returned (.pointer (some ⟨w.heap.size, 0, none⟩)) ∧ SrcB w' w.heap.size A n c 0 ∧ Below w.heap.size w w' := by
  go_enter Tryd.func12, Tryd.ntmps12
  go_wp2_with fail
  go_ret
  refine ⟨rfl, ⟨0, ?_⟩, ?_⟩
  · first | exact Blk.new w _ _ | ((repeat' (first | (with_reducible refine Blk.new' ?_ _ _; simp; done) | with_reducible refine Blk.drew1 ?_ | with_reducible refine Blk.alloc ?_ _)))
  · (repeat' (first | exact Below.refl _ _ | refine Below.drew ?_ | refine Below.alloc ?_ (by simp <;> omega) _))

end Go.Proofs.YtbpopkaafellgaaDoor
