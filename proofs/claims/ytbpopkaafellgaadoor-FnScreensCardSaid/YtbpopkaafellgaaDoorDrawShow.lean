/- DrawShowOn walked: a drawn screen and a drawn text. -/
import Derived.Test.YtbpopkaafellgaaDoorDrawX
namespace Go.Proofs.YtbpopkaafellgaaDoor
open Go.RowKit

/-- What DrawShowOn yields. -/
def DrawnShow (w w' : World) (e : Ending) : Prop :=
  ∃ (s : Scr) (t : ByteArray) (b off cap : Nat), s.rows.length = 6 ∧ (∀ r ∈ s.rows, r.size ≤ 21) ∧ t.size ≤ 120 ∧
    e = .returned (.tuple #[.agg #[.int .i64 s.row, .int .i64 s.col, .slice (some ⟨b, off, none⟩) s.rows.length cap], .string t]) ∧ OwnO w' w.heap.size b off cap s.rows ∧ Below w.heap.size w w'

set_option maxHeartbeats 4000000 in
set_option maxRecDepth 100000 in
theorem drawShowOn_any (lo hi : Nat) (A : Option Addr) (n c : Nat) (w : World) (hb : BytesR w lo hi A n) (hhi : hi ≤ w.heap.size) (hn : n ≤ 1048576) :
    Calls Tryd.prog 5 #[.slice A n c] w fun e w' => DrawnShow w w' e := by
  have HB := Lib.hid hb
  have HN := Lib.hid hn
  clear hb hn
  have hba := (Below.refl w.heap.size w).alloc (Nat.le_refl _) (.cells #[.int .i64 0, .int .i64 0, .slice none 0 0] 26)
  have HBA := Lib.hid hba
  have HK := Lib.hid (Blk.new w 26 #[.int .i64 0, .int .i64 0, .slice none 0 0])
  have HL := Lib.hid (l00From_any A n c (w.alloc (.cells #[.int .i64 0, .int .i64 0, .slice none 0 0] 26)))
  clear hba
  go_enter Tryd.func5, Tryd.ntmps5
  go_wp2_with fail
  refine HL.out.mono ?_
  rintro e1 w1 ⟨rfl, hs1, hb1⟩
  have hsz : (w.alloc (.cells #[.int .i64 0, .int .i64 0, .slice none 0 0] 26)).heap.size = w.heap.size + 1 := by simp
  have HB1 := Lib.hid (HBA.out.trans (hb1.mono (by omega)))
  have HK1 := Lib.hid (HK.out.below hb1 (by omega))
  rw [hsz] at hs1
  have HP1 := Lib.hid hs1.lt
  have HS1 := Lib.hid (l31Text_any _ lo hi A n c 0 w1 hs1 (HB.out.keep (fun i _ h => HB1.out.block i (by omega))) (by have := HB1.out.size; omega) (by omega) HN.out (.inl (by omega)))
  clear hs1 hb1 HL
  go_wp2_with fail
  refine HS1.out.mono ?_
  rintro e2 w2 ⟨t, ht, rfl, k2, hk2, hs2, hm2⟩
  have HB2 := Lib.hid (HB1.out.trans (hm2.below (B := w.heap.size) (by omega) (by have := HB1.out.size; omega)))
  have HK2 := Lib.hid (show Blk w2 w.heap.size 26 #[.int .i64 0, .int .i64 0, .slice none 0 0] from (hm2.block _ HK1.out.lt (by omega)).trans HK1.out)
  have HT := Lib.hid ht
  have HS2 := Lib.hid (l31Screen_any (w.heap.size + 1) lo hi A n c k2 w2 hs2 (HB.out.keep (fun i _ h => HB2.out.block i (by omega))) (by have := HB2.out.size; omega) (by omega) HN.out (.inl (by omega)))
  have hsz2 := hm2.size
  have HZ := Lib.hid (show w.heap.size + 1 ≤ w2.heap.size by have := HK2.out.lt; omega)
  clear hs2 hm2 HS1 ht
  go_wp2_with fail
  refine HS2.out.mono ?_
  rintro e3 w3 ⟨s, b, off, cap, h6, h21, rfl, hO, hm3⟩
  have HB3 := Lib.hid (HB2.out.trans (hm3.below (B := w.heap.size) (by omega) (by have := HZ.out; omega)))
  have HK3 := Lib.hid (show Blk w3 w.heap.size 26 #[.int .i64 0, .int .i64 0, .slice none 0 0] from (hm3.block _ HK2.out.lt (by omega)).trans HK2.out)
  have HO := Lib.hid hO
  have H6 := Lib.hid (And.intro h6 h21)
  have f := HK3.out.cell
  have z := HK3.out.frozen
  have hbw : w.heap.size + 1 ≤ b := by have := hO.1; have := HZ.out; omega
  clear hO hm3 HS2 h6 h21
  go_wp2_with fail
  refine bodyPost_ret (v := .tuple #[.agg #[.int .i64 s.row, .int .i64 s.col, .slice (some ⟨b, off, none⟩) s.rows.length cap], .string t]) (by simp [results, Tryd.results5, go_sem, f]) rfl ⟨s, t, b, off, cap, H6.out.1, H6.out.2, HT.out, rfl, ?_, ?_⟩
  · refine OwnO.mono (base := w2.heap.size) ?_ (by have := HZ.out; omega)
    iterate 3 (with_reducible refine OwnO.far ?_ (by simp; try omega) _)
    exact HO.out
  · repeat' (with_reducible refine Below.setCell ?_ (by simp) _)
    exact HB3.out
end Go.Proofs.YtbpopkaafellgaaDoor
