/- DrawWriteTo of the reference walked: drawn devices and a drawn text (printed by a program). -/
import Derived.Test.YtmeholhmadeehaaGreatDoorJoinFLAu
import Derived.Test.YtmeholhmadeehaaGreatDoorJoinFLAe
import Derived.Test.YtmeholhmadeehaaGreatDoorJoinFLAr
import Derived.Test.YtmeholhmadeehaaGreatDoorJoinFLAo
namespace Go.Proofs.YtmeholhmadeehaaGreatDoor
open Go.RowKit

set_option maxHeartbeats 4000000 in
set_option maxRecDepth 100000 in
theorem one_any (p lo hi : Nat) (A : Option Addr) (n c k : Nat) (m : Int) (w : World) (h : SrcB w p A n c k) (hb : BytesR w lo hi A n) (hk : k ≤ 900000000) (hn : n ≤ 1048576) (hp : hi ≤ p ∨ p < lo) (hm : m ≤ 60000) :
    Calls Tryz.prog 57 #[.pointer (some ⟨p, 0, none⟩), .int .i64 m] w fun e w' => ∃ b : Bool, e = .returned (.bool b) ∧ Drawn w w' p A n c k 2 := by
  have HN := Lib.hid (pick_any p lo hi A n c k m w h hb hk hn hp hm)
  clear h hb
  go_enter Tryz.func57, Tryz.ntmps57
  go_wp2_with fail
  refine HN.out.mono ?_
  rintro e1 w1 ⟨r, hr, hr6, rfl, hd⟩
  have HD := Lib.hid hd
  clear hd hr HN
  go_wp2_with fail
  go_ret
  exact ⟨_, rfl, HD.out⟩

/-- make([]byte, n), and the text of it. -/
theorem make_bytes (n : Nat) (hn : n ≤ 1048576) (w : World) : (Instr.makeSlice 39 (.int .i64 (n : Int)) (.int .i64 (n : Int))).run Tryz.prog w = .ok (.slice (some ⟨w.heap.size, 0, none⟩) n n) (w.alloc (.cells (Array.replicate n (.int .u8 0)) 5)) :=
  by simpa [encB] using make_row (P := Tryz.prog) encB 0 39 5 Tryz.underlying39 (by omega) rfl (by kernel_rfl : (Tryz.prog.info? 5).map (fun i => (i.zero, i.size, i.bytes)) = some (some (.int .u8 0), 1, 1)) n hn w
theorem convert_made (n : Nat) (hn : n ≤ 1048576) (w : World) : (convert 39 9 (.slice (some ⟨w.heap.size, 0, none⟩) n n)).run Tryz.prog (w.alloc (.cells (Array.replicate n (.int .u8 0)) 5)) = .ok (.string ⟨Array.replicate n (0 : UInt8)⟩) (w.alloc (.cells (Array.replicate n (.int .u8 0)) 5)) := by
  have h := convert_own (w := w.alloc (.cells (Array.replicate n (.int .u8 0)) 5)) (base := w.heap.size) (v := .slice (some ⟨w.heap.size, 0, none⟩) n n) (xs := List.replicate n (0 : UInt8)) ⟨⟨some ⟨w.heap.size, 0, none⟩, n, by simp⟩, ?_⟩
  · simpa using h
  have := World.ownsRow_lit (base := w.heap.size) (e := 5) (size := 1) w (Array.replicate n (.int .u8 0)) n (Nat.le_refl _) (by unfold maxLen; omega) (by simp)
  simpa [encB] using this
def drawnLong : ByteArray := ⟨#[49, 10, 50, 10, 51, 10, 52, 10, 53, 10, 54, 10, 55, 10, 56, 10, 57, 10, 49, 48, 10, 49, 49, 10, 49, 50, 10, 49, 51, 10, 49, 52, 10, 49, 53, 10, 49, 54, 10, 49, 55, 10, 49, 56, 10, 49, 57, 10, 50, 48, 10]⟩

set_option maxHeartbeats 16000000 in
set_option maxRecDepth 100000 in
theorem drawWriteTo_any (lo hi : Nat) (A : Option Addr) (n c : Nat) (w : World) (hb : BytesR w lo hi A n) (hhi : hi ≤ w.heap.size) (hn : n ≤ 1048576) :
    Calls Tryz.prog 18 #[.slice A n c] w fun e w' => ∃ v d t, e = .returned (.tuple #[v, .string t]) ∧ DevR w' w.heap.size w'.heap.size v d ∧ DevSmall d ∧ t.size ≤ 1000 ∧ Below w.heap.size w w' := by
  have HB := Lib.hid hb
  have HN := Lib.hid hn
  clear hb hn
  have HBA := Lib.hid ((Below.refl w.heap.size w).alloc (Nat.le_refl _) (.cells #[.int .i64 0, .int .i64 0, .int .i64 0, .slice none 0 0, .slice none 0 0, .slice none 0 0] 32))
  have HK := Lib.hid (Blk.new w 32 #[.int .i64 0, .int .i64 0, .int .i64 0, .slice none 0 0, .slice none 0 0, .slice none 0 0])
  have HL := Lib.hid (l00From_any A n c (w.alloc (.cells #[.int .i64 0, .int .i64 0, .int .i64 0, .slice none 0 0, .slice none 0 0, .slice none 0 0] 32)))
  have hsz : (w.alloc (.cells #[.int .i64 0, .int .i64 0, .int .i64 0, .slice none 0 0, .slice none 0 0, .slice none 0 0] 32)).heap.size = w.heap.size + 1 := by simp
  go_enter Tryz.func18, Tryz.ntmps18
  go_wp2_with fail
  refine HL.out.mono ?_
  rintro e1 w1 ⟨rfl, hs1, hb1⟩
  have HB1 := Lib.hid (HBA.out.trans (hb1.mono (by omega)))
  have HK1 := Lib.hid (HK.out.below hb1 (by omega))
  rw [hsz] at hs1
  have HP1 := Lib.hid hs1.lt
  have HS1 := Lib.hid (l31Text_any _ lo hi A n c 0 w1 hs1 (HB.out.keep (fun i _ h => HB1.out.block i (by omega))) (by have := HB1.out.size; omega) (by omega) HN.out (.inl (by omega)))
  clear hs1 hb1 HL
  go_wp2_with fail
  refine HS1.out.mono ?_
  rintro e2 w2 ⟨t, ht, rfl, k2, hk2, hs2, hm2⟩
  have HB2 := Lib.hid (HB1.out.trans (hm2.below (B := w.heap.size) (by omega) (by have := HB1.out.size; omega)))
  have HK2 := Lib.hid (show Blk w2 w.heap.size 32 #[.int .i64 0, .int .i64 0, .int .i64 0, .slice none 0 0, .slice none 0 0, .slice none 0 0] from (hm2.block _ HK1.out.lt (by omega)).trans HK1.out)
  have HT := Lib.hid ht
  have HP2 := Lib.hid (one_any (w.heap.size + 1) lo hi A n c k2 10 w2 hs2 (HB.out.keep (fun i _ h => HB2.out.block i (by omega))) (by omega) HN.out (.inl (by omega)) (by omega))
  clear hs2 hm2 HS1 ht HBA HK HB1 HK1
  go_wp2_with fail
  refine HP2.out.mono ?_
  rintro e3 w3 ⟨b3, rfl, k3, hk31, hk32, hs3, ht3⟩
  have HB3 := Lib.hid (HB2.out.trans (ht3.moved.below (B := w.heap.size) (by omega) (by have := HB2.out.size; omega)))
  have HK3 := Lib.hid (show Blk w3 w.heap.size 32 #[.int .i64 0, .int .i64 0, .int .i64 0, .slice none 0 0, .slice none 0 0, .slice none 0 0] from (ht3.block _ (by omega)).trans HK2.out)
  have HS3 := Lib.hid hs3
  clear hs3 ht3 HP2 HB2 HK2
  cases b3 with
  | true =>
    have HP3 := Lib.hid (pick_any (w.heap.size + 1) lo hi A n c k3 3 w3 HS3.out (HB.out.keep (fun i _ h => HB3.out.block i (by omega))) (by omega) HN.out (.inl (by omega)) (by omega))
    go_upto_region 4 with fail
    go_wp2_with fail
    refine HP3.out.mono ?_
    rintro e4 w4 ⟨r4, hr4, -, rfl, k4, hk41, hk42, hs4, ht4⟩
    have hr4' := hr4 (by omega)
    obtain ⟨M, hM⟩ : ∃ M : Nat, M = 79 + r4 := ⟨_, rfl⟩
    have hwr : IntKind.i64.wrap (79 + (r4 : Int)) = (M : Int) := by rw [wrap_i64_in _ (by omega) (by omega)]; omega
    have hM2 : M ≤ 81 := by omega
    have HB4 := Lib.hid ((HB3.out.trans (ht4.moved.below (B := w.heap.size) (by omega) (by have := HB3.out.size; omega))).alloc (by have := HB3.out.size; have := ht4.size; omega) (.cells (Array.replicate M (.int .u8 0)) 5))
    have HK4 := Lib.hid ((show Blk w4 w.heap.size 32 #[.int .i64 0, .int .i64 0, .int .i64 0, .slice none 0 0, .slice none 0 0, .slice none 0 0] from (ht4.block _ (by omega)).trans HK3.out).alloc (.cells (Array.replicate M (.int .u8 0)) 5))
    have HS4 := Lib.hid (show SrcB (w4.alloc (.cells (Array.replicate M (.int .u8 0)) 5)) (w.heap.size + 1) A n c k4 from by obtain ⟨sd, hs⟩ := hs4; exact ⟨sd, hs.alloc _⟩)
    have hmk := make_bytes M (by omega) w4
    have hcv := convert_made M (by omega) w4
    have HTM := Lib.hid (show (⟨Array.replicate M (0 : UInt8)⟩ : ByteArray).size ≤ 1000 from by show (Array.replicate M (0 : UInt8)).size ≤ 1000; simp; omega)
    clear hs4 ht4 hr4 hM HP3 hr4'
    go_upto_region 5 with fail
    clear hmk hcv
    generalize w4.alloc (.cells (Array.replicate M (.int .u8 0)) 5) = w44 at *
    generalize (⟨Array.replicate M (0 : UInt8)⟩ : ByteArray) = TM at *
    have HP4 := Lib.hid (one_any (w.heap.size + 1) lo hi A n c k4 10 w44 HS4.out (HB.out.keep (fun i _ h => HB4.out.block i (by omega))) (by omega) HN.out (.inl (by omega)) (by omega))
    go_wp2_with fail
    refine HP4.out.mono ?_
    rintro e5 w5 ⟨b5, rfl, k5, hk51, hk52, hs5, ht5⟩
    have HB5 := Lib.hid (HB4.out.trans (ht5.moved.below (B := w.heap.size) (by omega) (by have := HB4.out.size; omega)))
    have HK5 := Lib.hid (show Blk w5 w.heap.size 32 #[.int .i64 0, .int .i64 0, .int .i64 0, .slice none 0 0, .slice none 0 0, .slice none 0 0] from (ht5.block _ (by omega)).trans HK4.out)
    have HS5 := Lib.hid hs5
    clear hs5 ht5 HP4
    cases b5 with
    | true =>
      have HSL := Lib.hid (l31Devices_any (w.heap.size + 1) lo hi A n c k5 w5 HS5.out (HB.out.keep (fun i _ h => HB5.out.block i (by omega))) (by have := HB5.out.size; omega) (by omega) HN.out (.inl (by omega)))
      go_wp2_with fail
      refine HSL.out.mono ?_
      rintro e9 w9 ⟨v9, d9, rfl, hr9, hl9, hm9⟩
      obtain ⟨A9, c9, F9, f9, K9, k9, rfl, g1, g2, g3⟩ := hr9
      have HB9 := Lib.hid (HB5.out.trans (hm9.below (B := w.heap.size) (by omega) (by have := HB5.out.size; omega)))
      have HK9 := Lib.hid (show Blk w9 w.heap.size 32 #[.int .i64 0, .int .i64 0, .int .i64 0, .slice none 0 0, .slice none 0 0, .slice none 0 0] from (hm9.block _ HK5.out.lt (by omega)).trans HK5.out)
      have hz9 : w.heap.size + 1 ≤ w5.heap.size := by have := HK5.out.lt; omega
      have hz99 := hm9.size
      have HR9 := Lib.hid (show DevR w9 (w.heap.size + 1) w9.heap.size (.agg (devCs d9 A9 c9 F9 f9 K9 k9)) d9 from ⟨A9, c9, F9, f9, K9, k9, rfl, RowR.more g1 hz9 (Nat.le_refl _), FilesR.more g2 hz9 (Nat.le_refl _), RowR.more g3 hz9 (Nat.le_refl _)⟩)
      have HL9 := Lib.hid hl9
      have HT9 := Lib.hid (show ((⟨#[49, 10, 50, 10, 51, 10, 52, 10, 53, 10, 54, 10, 55, 10, 56, 10, 57, 10, 49, 48, 10, 49, 49, 10, 49, 50, 10, 49, 51, 10, 49, 52, 10, 49, 53, 10, 49, 54, 10, 49, 55, 10, 49, 56, 10, 49, 57, 10, 50, 48, 10]⟩ : ByteArray)).size ≤ 1000 from (by decide))
      have fr := HK9.out.cell; have zr := HK9.out.frozen
      clear g1 g2 g3 hm9 hl9 HSL
      go_wp2_with fail
      refine bodyPost_ret (v := .tuple #[.agg (devCs d9 A9 c9 F9 f9 K9 k9), .string ((⟨#[49, 10, 50, 10, 51, 10, 52, 10, 53, 10, 54, 10, 55, 10, 56, 10, 57, 10, 49, 48, 10, 49, 49, 10, 49, 50, 10, 49, 51, 10, 49, 52, 10, 49, 53, 10, 49, 54, 10, 49, 55, 10, 49, 56, 10, 49, 57, 10, 50, 48, 10]⟩ : ByteArray))]) (by simp [results, Tryz.results18, go_sem, fr, devCs]) rfl ⟨_, d9, _, rfl, ?_, HL9.out, HT9.out, ?_⟩
      · obtain ⟨A8, c8, F8, f8, K8, k8, e8, q1, q2, q3⟩ := (loc_devR (w.heap.size + 1) w9.heap.size _ d9).set6 HR9.out w.heap.size (.int .i64 d9.use) (.int .i64 d9.scr.row) (.int .i64 d9.scr.col) (.slice A9 d9.scr.rows.length c9) (.slice F9 d9.files.length f9) (.slice K9 d9.keys.length k9) (.inr (by omega))
        rw [set6_size]
        exact ⟨A8, c8, F8, f8, K8, k8, e8, RowR.more q1 (by omega) (Nat.le_refl _), FilesR.more q2 (by omega) (Nat.le_refl _), RowR.more q3 (by omega) (Nat.le_refl _)⟩
      · iterate 6 (with_reducible refine Below.setCell ?_ (by simp) _)
        exact HB9.out
    | false =>
      have HSL := Lib.hid (l31Devices_any (w.heap.size + 1) lo hi A n c k5 w5 HS5.out (HB.out.keep (fun i _ h => HB5.out.block i (by omega))) (by have := HB5.out.size; omega) (by omega) HN.out (.inl (by omega)))
      go_wp2_with fail
      refine HSL.out.mono ?_
      rintro e9 w9 ⟨v9, d9, rfl, hr9, hl9, hm9⟩
      obtain ⟨A9, c9, F9, f9, K9, k9, rfl, g1, g2, g3⟩ := hr9
      have HB9 := Lib.hid (HB5.out.trans (hm9.below (B := w.heap.size) (by omega) (by have := HB5.out.size; omega)))
      have HK9 := Lib.hid (show Blk w9 w.heap.size 32 #[.int .i64 0, .int .i64 0, .int .i64 0, .slice none 0 0, .slice none 0 0, .slice none 0 0] from (hm9.block _ HK5.out.lt (by omega)).trans HK5.out)
      have hz9 : w.heap.size + 1 ≤ w5.heap.size := by have := HK5.out.lt; omega
      have hz99 := hm9.size
      have HR9 := Lib.hid (show DevR w9 (w.heap.size + 1) w9.heap.size (.agg (devCs d9 A9 c9 F9 f9 K9 k9)) d9 from ⟨A9, c9, F9, f9, K9, k9, rfl, RowR.more g1 hz9 (Nat.le_refl _), FilesR.more g2 hz9 (Nat.le_refl _), RowR.more g3 hz9 (Nat.le_refl _)⟩)
      have HL9 := Lib.hid hl9
      have HT9 := Lib.hid (show (TM).size ≤ 1000 from HTM.out)
      have fr := HK9.out.cell; have zr := HK9.out.frozen
      clear g1 g2 g3 hm9 hl9 HSL
      go_wp2_with fail
      refine bodyPost_ret (v := .tuple #[.agg (devCs d9 A9 c9 F9 f9 K9 k9), .string (TM)]) (by simp [results, Tryz.results18, go_sem, fr, devCs]) rfl ⟨_, d9, _, rfl, ?_, HL9.out, HT9.out, ?_⟩
      · obtain ⟨A8, c8, F8, f8, K8, k8, e8, q1, q2, q3⟩ := (loc_devR (w.heap.size + 1) w9.heap.size _ d9).set6 HR9.out w.heap.size (.int .i64 d9.use) (.int .i64 d9.scr.row) (.int .i64 d9.scr.col) (.slice A9 d9.scr.rows.length c9) (.slice F9 d9.files.length f9) (.slice K9 d9.keys.length k9) (.inr (by omega))
        rw [set6_size]
        exact ⟨A8, c8, F8, f8, K8, k8, e8, RowR.more q1 (by omega) (Nat.le_refl _), FilesR.more q2 (by omega) (Nat.le_refl _), RowR.more q3 (by omega) (Nat.le_refl _)⟩
      · iterate 6 (with_reducible refine Below.setCell ?_ (by simp) _)
        exact HB9.out
  | false =>
    have HP4 := Lib.hid (one_any (w.heap.size + 1) lo hi A n c k3 10 w3 HS3.out (HB.out.keep (fun i _ h => HB3.out.block i (by omega))) (by omega) HN.out (.inl (by omega)) (by omega))
    go_wp2_with fail
    refine HP4.out.mono ?_
    rintro e5 w5 ⟨b5, rfl, k5, hk51, hk52, hs5, ht5⟩
    have HB5 := Lib.hid (HB3.out.trans (ht5.moved.below (B := w.heap.size) (by omega) (by have := HB3.out.size; omega)))
    have HK5 := Lib.hid (show Blk w5 w.heap.size 32 #[.int .i64 0, .int .i64 0, .int .i64 0, .slice none 0 0, .slice none 0 0, .slice none 0 0] from (ht5.block _ (by omega)).trans HK3.out)
    have HS5 := Lib.hid hs5
    clear hs5 ht5 HP4
    cases b5 with
    | true =>
      have HSL := Lib.hid (l31Devices_any (w.heap.size + 1) lo hi A n c k5 w5 HS5.out (HB.out.keep (fun i _ h => HB5.out.block i (by omega))) (by have := HB5.out.size; omega) (by omega) HN.out (.inl (by omega)))
      go_wp2_with fail
      refine HSL.out.mono ?_
      rintro e9 w9 ⟨v9, d9, rfl, hr9, hl9, hm9⟩
      obtain ⟨A9, c9, F9, f9, K9, k9, rfl, g1, g2, g3⟩ := hr9
      have HB9 := Lib.hid (HB5.out.trans (hm9.below (B := w.heap.size) (by omega) (by have := HB5.out.size; omega)))
      have HK9 := Lib.hid (show Blk w9 w.heap.size 32 #[.int .i64 0, .int .i64 0, .int .i64 0, .slice none 0 0, .slice none 0 0, .slice none 0 0] from (hm9.block _ HK5.out.lt (by omega)).trans HK5.out)
      have hz9 : w.heap.size + 1 ≤ w5.heap.size := by have := HK5.out.lt; omega
      have hz99 := hm9.size
      have HR9 := Lib.hid (show DevR w9 (w.heap.size + 1) w9.heap.size (.agg (devCs d9 A9 c9 F9 f9 K9 k9)) d9 from ⟨A9, c9, F9, f9, K9, k9, rfl, RowR.more g1 hz9 (Nat.le_refl _), FilesR.more g2 hz9 (Nat.le_refl _), RowR.more g3 hz9 (Nat.le_refl _)⟩)
      have HL9 := Lib.hid hl9
      have HT9 := Lib.hid (show ((⟨#[49, 10, 50, 10, 51, 10, 52, 10, 53, 10, 54, 10, 55, 10, 56, 10, 57, 10, 49, 48, 10, 49, 49, 10, 49, 50, 10, 49, 51, 10, 49, 52, 10, 49, 53, 10, 49, 54, 10, 49, 55, 10, 49, 56, 10, 49, 57, 10, 50, 48, 10]⟩ : ByteArray)).size ≤ 1000 from (by decide))
      have fr := HK9.out.cell; have zr := HK9.out.frozen
      clear g1 g2 g3 hm9 hl9 HSL
      go_wp2_with fail
      refine bodyPost_ret (v := .tuple #[.agg (devCs d9 A9 c9 F9 f9 K9 k9), .string ((⟨#[49, 10, 50, 10, 51, 10, 52, 10, 53, 10, 54, 10, 55, 10, 56, 10, 57, 10, 49, 48, 10, 49, 49, 10, 49, 50, 10, 49, 51, 10, 49, 52, 10, 49, 53, 10, 49, 54, 10, 49, 55, 10, 49, 56, 10, 49, 57, 10, 50, 48, 10]⟩ : ByteArray))]) (by simp [results, Tryz.results18, go_sem, fr, devCs]) rfl ⟨_, d9, _, rfl, ?_, HL9.out, HT9.out, ?_⟩
      · obtain ⟨A8, c8, F8, f8, K8, k8, e8, q1, q2, q3⟩ := (loc_devR (w.heap.size + 1) w9.heap.size _ d9).set6 HR9.out w.heap.size (.int .i64 d9.use) (.int .i64 d9.scr.row) (.int .i64 d9.scr.col) (.slice A9 d9.scr.rows.length c9) (.slice F9 d9.files.length f9) (.slice K9 d9.keys.length k9) (.inr (by omega))
        rw [set6_size]
        exact ⟨A8, c8, F8, f8, K8, k8, e8, RowR.more q1 (by omega) (Nat.le_refl _), FilesR.more q2 (by omega) (Nat.le_refl _), RowR.more q3 (by omega) (Nat.le_refl _)⟩
      · iterate 6 (with_reducible refine Below.setCell ?_ (by simp) _)
        exact HB9.out
    | false =>
      have HSL := Lib.hid (l31Devices_any (w.heap.size + 1) lo hi A n c k5 w5 HS5.out (HB.out.keep (fun i _ h => HB5.out.block i (by omega))) (by have := HB5.out.size; omega) (by omega) HN.out (.inl (by omega)))
      go_wp2_with fail
      refine HSL.out.mono ?_
      rintro e9 w9 ⟨v9, d9, rfl, hr9, hl9, hm9⟩
      obtain ⟨A9, c9, F9, f9, K9, k9, rfl, g1, g2, g3⟩ := hr9
      have HB9 := Lib.hid (HB5.out.trans (hm9.below (B := w.heap.size) (by omega) (by have := HB5.out.size; omega)))
      have HK9 := Lib.hid (show Blk w9 w.heap.size 32 #[.int .i64 0, .int .i64 0, .int .i64 0, .slice none 0 0, .slice none 0 0, .slice none 0 0] from (hm9.block _ HK5.out.lt (by omega)).trans HK5.out)
      have hz9 : w.heap.size + 1 ≤ w5.heap.size := by have := HK5.out.lt; omega
      have hz99 := hm9.size
      have HR9 := Lib.hid (show DevR w9 (w.heap.size + 1) w9.heap.size (.agg (devCs d9 A9 c9 F9 f9 K9 k9)) d9 from ⟨A9, c9, F9, f9, K9, k9, rfl, RowR.more g1 hz9 (Nat.le_refl _), FilesR.more g2 hz9 (Nat.le_refl _), RowR.more g3 hz9 (Nat.le_refl _)⟩)
      have HL9 := Lib.hid hl9
      have HT9 := Lib.hid (show (t).size ≤ 1000 from (by have := HT.out; omega))
      have fr := HK9.out.cell; have zr := HK9.out.frozen
      clear g1 g2 g3 hm9 hl9 HSL
      go_wp2_with fail
      refine bodyPost_ret (v := .tuple #[.agg (devCs d9 A9 c9 F9 f9 K9 k9), .string (t)]) (by simp [results, Tryz.results18, go_sem, fr, devCs]) rfl ⟨_, d9, _, rfl, ?_, HL9.out, HT9.out, ?_⟩
      · obtain ⟨A8, c8, F8, f8, K8, k8, e8, q1, q2, q3⟩ := (loc_devR (w.heap.size + 1) w9.heap.size _ d9).set6 HR9.out w.heap.size (.int .i64 d9.use) (.int .i64 d9.scr.row) (.int .i64 d9.scr.col) (.slice A9 d9.scr.rows.length c9) (.slice F9 d9.files.length f9) (.slice K9 d9.keys.length k9) (.inr (by omega))
        rw [set6_size]
        exact ⟨A8, c8, F8, f8, K8, k8, e8, RowR.more q1 (by omega) (Nat.le_refl _), FilesR.more q2 (by omega) (Nat.le_refl _), RowR.more q3 (by omega) (Nat.le_refl _)⟩
      · iterate 6 (with_reducible refine Below.setCell ?_ (by simp) _)
        exact HB9.out

end Go.Proofs.YtmeholhmadeehaaGreatDoor

/- The law of screens, plainly: a text in two parts; what shows stays; blanks up to a column. -/
namespace Go.Proofs.YtmeholhmadeehaaGreatDoor

theorem get_extract {s : ByteArray} {a b j : Nat} (hb : b ≤ s.size) (hj : a + j < b) : (s.extract a b).get! j = s.get! (a + j) := by
  have h1 : j < (s.extract a b).size := by rw [ByteArray.size_extract]; omega
  have h2 : a + j < s.size := by omega
  show (s.extract a b).data[j]! = s.data[a + j]!
  rw [getElem!_pos _ j h1, getElem!_pos _ (a + j) h2]
  simp only [ByteArray.data_extract, Array.getElem_extract]

/-- A text in two parts has the same effect. -/
theorem showTo_first (s : Scr) (text : ByteArray) (k : Nat) (hk : k ≤ text.size) : ∀ j, j ≤ k → showTo s (text.extract 0 k) j = showTo s text j
  | 0, _ => rfl
  | j + 1, h => by
    show showCh (showTo s (text.extract 0 k) j) _ = showCh (showTo s text j) _
    rw [showTo_first s text k hk j (by omega), get_extract hk (by omega), Nat.zero_add]
theorem showTo_second (s : Scr) (text : ByteArray) (k : Nat) : ∀ j, k + j ≤ text.size → showTo (showTo s text k) (text.extract k text.size) j = showTo s text (k + j)
  | 0, _ => rfl
  | j + 1, h => by
    show showCh (showTo (showTo s text k) (text.extract k text.size) j) _ = showCh (showTo s text (k + j)) _
    rw [showTo_second s text k j (by omega), get_extract (Nat.le_refl _) (by omega)]
    rfl
theorem showTo_parts (s : Scr) (text : ByteArray) (k : Nat) (hk : k ≤ text.size) :
    showTo (showTo s (text.extract 0 k) (text.extract 0 k).size) (text.extract k text.size) (text.extract k text.size).size = showTo s text text.size := by
  have e1 : (text.extract 0 k).size = k := by rw [ByteArray.size_extract]; omega
  have e2 : (text.extract k text.size).size = text.size - k := by rw [ByteArray.size_extract]; omega
  rw [e1, showTo_first s text k hk k (Nat.le_refl _), e2, showTo_second s text k _ (by omega)]
  congr 1; omega

/-- All rows show. -/
def Shows (s : Scr) : Prop := ∀ r ∈ s.rows, rowB r = true
theorem scrB_of {s : Scr} (h : Fine s) (hs : Shows s) : scrB s = true := by
  unfold scrB
  simp only [Bool.and_eq_true, decide_eq_true_eq, List.all_eq_true]
  exact ⟨⟨⟨h.len, h.row0, h.row5⟩, h.col0, h.col19⟩, hs⟩
theorem shows_of {s : Scr} (h : scrB s = true) : Shows s := by
  unfold scrB at h
  simp only [Bool.and_eq_true, List.all_eq_true] at h
  exact h.2

theorem rowB_iff (r : ByteArray) : rowB r = true ↔ r.size = 20 ∧ ∀ j, j < r.size → showsB (r.get! j).toNat = true := by
  unfold rowB
  simp only [Bool.and_eq_true, decide_eq_true_eq]
  constructor
  · exact fun ⟨h1, h2⟩ => ⟨h1, fun j hj => rowTo_at hj h2⟩
  · refine fun ⟨h1, h2⟩ => ⟨h1, ?_⟩
    unfold rowTo
    rw [List.all_eq_true]
    exact fun j hj => h2 j (by simpa using hj)
theorem get_append (a b : ByteArray) (j : Nat) : (a ++ b).get! j = if j < a.size then a.get! j else b.get! (j - a.size) := by
  show (a ++ b).data[j]! = if j < a.size then a.data[j]! else b.data[j - a.size]!
  rw [ByteArray.data_append, getElem!_def, getElem!_def, getElem!_def, Array.getElem?_append]
  by_cases h : j < a.data.size
  · rw [if_pos h, if_pos (show j < a.size from h)]
  · rw [if_neg h, if_neg (show ¬ j < a.size from h)]; rfl
theorem putAt_shows {r : ByteArray} {col : Nat} {c : UInt8} (hr : rowB r = true) (hc : col ≤ 19) (hs : showsB c.toNat = true) : rowB (putAt r col c) = true := by
  rw [rowB_iff] at hr ⊢
  refine ⟨putAt_size hr.1 hc, fun j hj => ?_⟩
  rw [putAt_size hr.1 hc] at hj
  have e1 : (r.extract 0 col).size = col := by rw [ByteArray.size_extract, hr.1]; omega
  have e2 : (r.extract 0 col ++ (⟨#[c]⟩ : ByteArray)).size = col + 1 := by rw [ByteArray.size_append, e1]; rfl
  unfold putAt
  rw [get_append, e2]
  by_cases h1 : j < col + 1
  · rw [if_pos h1, get_append, e1]
    by_cases h2 : j < col
    · rw [if_pos h2, get_extract (by rw [hr.1]; omega) (by omega), Nat.zero_add]
      exact hr.2 j (by rw [hr.1]; omega)
    · rw [if_neg h2]
      obtain rfl : j = col := by omega
      rw [Nat.sub_self]
      exact hs
  · rw [if_neg h1, get_extract (Nat.le_refl _) (by rw [hr.1]; omega)]
    exact hr.2 _ (by rw [hr.1]; omega)
theorem blanks_rowB : rowB (blanks 20) = true := by
  rw [rowB_iff]
  refine ⟨blanks_size 20, fun j hj => ?_⟩
  rw [blanks_size] at hj
  rw [blanks_get hj]; rfl

theorem newRow_shows {s : Scr} (h : Shows s) : Shows (newRow s) := by
  unfold newRow
  split
  · exact h
  · intro r hr
    rcases List.mem_append.1 hr with hr | hr
    · exact h r (List.mem_of_mem_drop hr)
    · rw [List.mem_singleton.1 hr]; exact blanks_rowB
theorem setRow_shows {s : Scr} (hf : Fine s) (h : Shows s) {c : UInt8} (hc : showsB c.toNat = true) : ∀ r ∈ setRow s c, rowB r = true := by
  intro r hr
  unfold setRow at hr
  rcases List.mem_or_eq_of_mem_set hr with hr | rfl
  · exact h r hr
  · have h4 := hf.col0; have h5 := hf.col19
    exact putAt_shows (h _ (row_mem hf)) (by omega) hc
theorem putCh_shows {s : Scr} (hf : Fine s) (h : Shows s) {c : UInt8} (hc : showsB c.toNat = true) : Shows (putCh s c) := by
  unfold putCh
  split
  · exact newRow_shows (s := ⟨s.row, 20, setRow s c⟩) (setRow_shows hf h hc)
  · exact setRow_shows hf h hc
theorem tabTo_shows : ∀ (f : Nat) {s : Scr}, Fine s → Shows s → Shows (tabTo f s)
  | 0, _, _, h => h
  | f + 1, s, hf, h => by
    unfold tabTo
    split
    · exact h
    · exact tabTo_shows f (putCh_fine hf 32) (putCh_shows hf h rfl)
theorem showCh_shows {s : Scr} (hf : Fine s) (h : Shows s) (c : UInt8) : Shows (showCh s c) := by
  unfold showCh
  split
  · rename_i hc
    exact putCh_shows hf h (by unfold showsB; exact decide_eq_true hc)
  split
  · exact newRow_shows h
  split
  · exact h
  split
  · exact h
  split
  · exact tabTo_shows 8 (putCh_fine hf 32) (putCh_shows hf h rfl)
  split
  · intro r hr
    rw [(List.mem_replicate.1 hr).2]; exact blanks_rowB
  · exact h
theorem showTo_shows {s : Scr} (hf : Fine s) (h : Shows s) (text : ByteArray) : ∀ k, Shows (showTo s text k)
  | 0 => h
  | k + 1 => showCh_shows (showTo_fine hf text k) (showTo_shows hf h text k) _
theorem showTo_scrB {s : Scr} (h : scrB s = true) (text : ByteArray) (k : Nat) : scrB (showTo s text k) = true :=
  scrB_of (showTo_fine (Fine.of_scrB h) text k) (showTo_shows (Fine.of_scrB h) (shows_of h) text k)

theorem putsTo_row {s : Scr} (h : Fine s) : ∀ (k : Nat), s.col + k ≤ 19 → (putsTo s k).row = s.row
  | 0, _ => rfl
  | k + 1, hk => by
    obtain ⟨h1, h2⟩ := putsTo_col h k (by omega)
    show (putCh (putsTo s k) 32).row = _
    unfold putCh
    rw [if_neg (by rw [h1]; omega)]
    exact putsTo_row h k (by omega)
theorem putsTo_shows {s : Scr} (hf : Fine s) (h : Shows s) : ∀ (k : Nat), s.col + k ≤ 19 → Shows (putsTo s k)
  | 0, _ => h
  | k + 1, hk => putCh_shows (putsTo_col hf k (by omega)).2 (putsTo_shows hf h k (by omega)) rfl

/-- What the law asks of TabTo: s is right, 0 ≤ col ≤ 19. -/
theorem tab_law {s : Scr} (h : scrB s = true) {col : Int} (h0 : 0 ≤ col) (h19 : col ≤ 19) :
    let t := if 20 ≤ col ∨ col ≤ s.col then s else putsTo s (col - s.col).toNat
    scrB t = true ∧ (col < s.col ∨ t.col = col) ∧ t.row = s.row := by
  have hf := Fine.of_scrB h
  have hc := hf.col0
  dsimp only
  split
  · rename_i hcase
    refine ⟨h, ?_, rfl⟩
    rcases hcase with h1 | h1
    · omega
    · rcases Int.lt_or_eq_of_le h1 with h2 | h2
      · exact .inl h2
      · exact .inr h2.symm
  · rename_i hcase
    have hk : s.col + ((col - s.col).toNat : Int) ≤ 19 := by omega
    obtain ⟨h1, h2⟩ := putsTo_col hf _ hk
    exact ⟨scrB_of h2 (putsTo_shows hf (shows_of h) _ hk), .inr (by rw [h1]; omega), putsTo_row hf _ hk⟩

end Go.Proofs.YtmeholhmadeehaaGreatDoor

/- The law of files, plainly: what is written line by line is read again; devices stay right. -/
namespace Go.Proofs.YtmeholhmadeehaaGreatDoor

def logN : ByteArray := ⟨#[76, 79, 71]⟩
def fst (use : Int) (scr : Scr) (lines : List ByteArray) (part : ByteArray) (at_ : Int) (ks : List ByteArray) : Dev := ⟨use, scr, [⟨logN, lines, part, at_⟩], ks⟩
theorem fst_ok {use : Int} {scr : Scr} {lines : List ByteArray} {part : ByteArray} {at_ : Int} {ks : List ByteArray} (hu : 0 ≤ use ∧ use ≤ 1) (hs : scrB scr = true) (hl : lines.length ≤ 20) (hy : ∀ y ∈ lines, lineB y = true) (hp : lineB part = true)
    (ha : 0 ≤ at_ ∧ at_ ≤ lines.length) (hk : ks.length ≤ 20) (hks : keysB ks = true) : devB (fst use scr lines part at_ ks) = true := by
  have hf : filB ⟨logN, lines, part, at_⟩ = true := by
    unfold filB
    rw [show nameB logN = true from by decide, hp, inB_true ha.1 ha.2, List.all_eq_true.2 hy]
    simp [hl]
  unfold devB fst
  rw [hs, hks]
  have h1 : filsTo [(⟨logN, lines, part, at_⟩ : Fil)] ([(⟨logN, lines, part, at_⟩ : Fil)] : List Fil).length = true := by
    simp [filsTo, filOkAt, hf]
  rw [h1, inB_true hu.1 (by simpa using hu.2)]
  simp [hk]

/-- The lines that may be written. -/
def fourLines : List ByteArray := [⟨#[]⟩, ⟨#[111, 110, 101]⟩, ⟨#[116, 119, 111, 32, 119, 111, 114, 100, 115]⟩, ⟨#[51]⟩]
theorem four_ok : ∀ y ∈ fourLines, lineB y = true := by decide
theorem four_size : ∀ y ∈ fourLines, y.size ≤ 9 := by decide
def typedK : List ByteArray := [⟨#[116, 121, 112, 101, 100]⟩]
theorem typed_ok : keysB typedK = true := by decide
theorem blank_ok : scrB blankScr = true := by kernel_rfl
def lfT : ByteArray := ⟨#[10]⟩

theorem new_typed : newDevP typedK = (blankScr, typedK, 0) := by kernel_rfl
theorem use_log : useP ⟨0, blankScr, [], typedK⟩ logN = (fst 1 blankScr [] ⟨#[]⟩ 0 typedK, 0) := by kernel_rfl

theorem fst1 {s : Scr} {ls : List ByteArray} {p : ByteArray} {a : Int} {ks : List ByteArray} : ¬ (fst 1 s ls p a ks).use = 0 := fun h => absurd (show (1 : Int) = 0 from h) (by decide)
theorem fstk {u : Int} {s : Scr} {ls : List ByteArray} {p : ByteArray} {a : Int} : ¬ (fst u s ls p a typedK).keys.length = 0 := fun h => absurd (show typedK.length = 0 from h) (by decide)
def Six (ls : List ByteArray) : Prop := ls.length ≤ 6 ∧ ∀ y ∈ ls, y ∈ fourLines
theorem Six.ok {ls : List ByteArray} (h : Six ls) : ls.length ≤ 20 ∧ ∀ y ∈ ls, lineB y = true := ⟨by have := h.1; omega, fun y hy => four_ok y (h.2 y hy)⟩
theorem six_dev {ls : List ByteArray} (h : Six ls) {part : ByteArray} (hp : lineB part = true) {a : Int} (ha : 0 ≤ a ∧ a ≤ ls.length) {u : Int} (hu : 0 ≤ u ∧ u ≤ 1) : devB (fst u blankScr ls part a typedK) = true :=
  fst_ok hu blank_ok h.ok.1 h.ok.2 hp ha (by decide) typed_ok

theorem write_line {ls : List ByteArray} (h : Six ls) {x : ByteArray} (hx : x ∈ fourLines) : writeP (fst 1 blankScr ls ⟨#[]⟩ 0 typedK) x = (fst 1 blankScr ls x 0 typedK, 0) := by
  have hl : ls.length ≤ 20 := h.ok.1
  have hd : decide (ls.length ≤ 20) = true := decide_eq_true hl
  unfold writeP
  rw [six_dev h (by decide) ⟨by omega, by omega⟩ (by omega), if_pos rfl, if_neg fst1]
  simp only [fourLines, List.mem_cons, List.not_mem_nil, or_false] at hx
  rcases hx with rfl | rfl | rfl | rfl <;>
  · unfold writeFil
    rw [if_pos (by simp [fst, wrOk, wrB, fitsB, hd] <;> decide)]
    rfl
theorem write_lf {ls : List ByteArray} (h : Six ls) (h6 : ls.length < 6) {x : ByteArray} (hx : x ∈ fourLines) : writeP (fst 1 blankScr ls x 0 typedK) lfT = (fst 1 blankScr (ls ++ [x]) ⟨#[]⟩ 0 typedK, 0) := by
  have hl : (ls ++ [x]).length ≤ 20 := by simp; omega
  unfold writeP
  rw [six_dev h (four_ok x hx) ⟨by omega, by omega⟩ (by omega), if_pos rfl, if_neg fst1]
  unfold writeFil
  rw [if_pos (by
    show wrOk ⟨logN, ls, x, 0⟩ [10] = true
    have e : wrB ⟨logN, ls, x, 0⟩ 10 = ⟨logN, ls ++ [x], ⟨#[]⟩, 0⟩ := rfl
    rw [wrOk, e]
    simp only [wrOk, fitsB, Bool.and_true, Bool.and_eq_true, decide_eq_true_eq]
    exact ⟨Nat.zero_le _, hl⟩)]
  rfl
theorem six_snoc {ls : List ByteArray} (h : Six ls) (h6 : ls.length < 6) {x : ByteArray} (hx : x ∈ fourLines) : Six (ls ++ [x]) :=
  ⟨by simp; omega, fun y hy => by
    rcases List.mem_append.1 hy with hy | hy
    · exact h.2 y hy
    · obtain rfl : y = x := by simpa using hy
      exact hx⟩
theorem six_take {ls : List ByteArray} (h : Six ls) (k : Nat) : Six (ls.take k) := ⟨by rw [List.length_take]; have := h.1; omega, fun y hy => h.2 y (List.mem_of_mem_take hy)⟩

theorem read_line {ls : List ByteArray} (h : Six ls) {k : Nat} (hk : k < ls.length) : readP (fst 1 blankScr ls ⟨#[]⟩ k typedK) 0 = ⟨fst 1 blankScr ls ⟨#[]⟩ ((k : Int) + 1) typedK, ls.getD k ByteArray.empty, 0⟩ := by
  unfold readP
  rw [six_dev h (by decide) ⟨by omega, by omega⟩ (by omega), if_pos rfl, if_pos (by decide), if_neg fst1]
  unfold readFil
  rw [if_neg (by show ¬ ((ls.length : Nat) : Int) ≤ (k : Int); omega)]
  have e : wantT (ls.getD k ByteArray.empty) 0 = ls.getD k ByteArray.empty := by
    unfold wantT; rw [if_neg (by decide), if_neg (by omega)]
  show (⟨_, wantT (ls.getD k ByteArray.empty) 0, 0⟩ : Rd) = _
  rw [e]
  rfl
theorem read_end {ls : List ByteArray} (h : Six ls) : readP (fst 1 blankScr ls ⟨#[]⟩ ls.length typedK) 0 = noRd 3 := by
  unfold readP
  rw [six_dev h (by decide) ⟨by omega, by omega⟩ (by omega), if_pos rfl, if_pos (by decide), if_neg fst1]
  unfold readFil
  rw [if_pos (by show ((ls.length : Nat) : Int) ≤ (ls.length : Int); omega)]
theorem use_back {ls : List ByteArray} (h : Six ls) : useP (fst 1 blankScr ls ⟨#[]⟩ ls.length typedK) ⟨#[]⟩ = (fst 0 blankScr ls ⟨#[]⟩ ls.length typedK, 0) := by
  unfold useP
  rw [six_dev h (by decide) ⟨by omega, by omega⟩ (by omega)]
  rfl
/-- What is read of the keys. -/
theorem read_typed {ls : List ByteArray} (h : Six ls) {m : Int} (hm : 0 ≤ m ∧ m ≤ 2) : ∃ (s : Scr) (t : ByteArray), scrB s = true ∧ 0 < t.size ∧ t.size ≤ 5 ∧ readP (fst 0 blankScr ls ⟨#[]⟩ ls.length typedK) m = ⟨fst 0 s ls ⟨#[]⟩ ls.length [], t, 0⟩ := by
  refine ⟨newRow (showTo blankScr (shownT (typedK.getD 0 ByteArray.empty) m) (shownT (typedK.getD 0 ByteArray.empty) m).size), wantT (typedK.getD 0 ByteArray.empty) m, ?_, ?_, ?_, ?_⟩
  · have h1 := showTo_scrB blank_ok (shownT (typedK.getD 0 ByteArray.empty) m) (shownT (typedK.getD 0 ByteArray.empty) m).size
    have hf := Fine.of_scrB h1
    exact scrB_of (newRow_fine hf.len hf.row0 hf.row5 hf.size) (newRow_shows (shows_of h1))
  · obtain rfl | rfl | rfl : m = 0 ∨ m = 1 ∨ m = 2 := by omega
    all_goals decide
  · obtain rfl | rfl | rfl : m = 0 ∨ m = 1 ∨ m = 2 := by omega
    all_goals decide
  · unfold readP
    rw [six_dev h (by decide) ⟨by omega, by omega⟩ (by omega), if_pos rfl, if_pos (inB_true (by omega) (by omega)), if_pos (show (fst 0 blankScr ls ⟨#[]⟩ ls.length typedK).use = 0 from rfl)]
    unfold readKey
    rw [if_neg fstk]
    rfl
theorem close_log {ls : List ByteArray} (h : Six ls) {s : Scr} (hs : scrB s = true) : closeP (fst 0 s ls ⟨#[]⟩ ls.length []) logN = (⟨0, s, [], []⟩, 0) := by
  unfold closeP
  rw [fst_ok ⟨by omega, by omega⟩ hs h.ok.1 h.ok.2 (by decide) ⟨by omega, by omega⟩ (by decide) (by decide), if_pos rfl]
  rw [show thereB (fst 0 s ls ⟨#[]⟩ ls.length []).files logN = true from by kernel_rfl, if_pos rfl, show place (fst 0 s ls ⟨#[]⟩ ls.length []).files logN = 0 from by kernel_rfl]
  rfl

/-- Devices that are right stay right when they are written to. -/
theorem filsTo_of {fs : List Fil} (hf : ∀ f ∈ fs, filB f = true) (hs : Sorted fs) : filsTo fs fs.length = true := by
  unfold filsTo
  rw [List.all_eq_true]
  intro k hk
  have hk' : k < fs.length := List.mem_range.1 hk
  unfold filOkAt
  rw [hf _ (getD_mem hk'), Bool.true_and]
  by_cases h0 : k = 0
  · simp [h0]
  · rw [hs (k - 1) k (by omega) hk']; simp
theorem devB_of {d : Dev} (h : DevGood d) (hs : scrB d.scr = true) : devB d = true := by
  unfold devB
  rw [inB_true h.use0 h.usen, hs, h.keys, filsTo_of h.files h.sorted]
  simp [h.n3, h.k20]
theorem wrB_ok {f : Fil} (h : filB f = true) {c : UInt8} (hf : fitsB (wrB f c) = true) : filB (wrB f c) = true := by
  unfold filB at h ⊢
  simp only [Bool.and_eq_true, decide_eq_true_eq] at h ⊢
  unfold fitsB at hf
  simp only [Bool.and_eq_true, decide_eq_true_eq] at hf
  obtain ⟨⟨⟨⟨h1, h2⟩, h3⟩, h4⟩, h5⟩ := h
  have h4' : 0 ≤ f.at_ ∧ f.at_ ≤ f.lines.length := by unfold inB at h4; simpa using h4
  unfold wrB at hf ⊢
  by_cases hc : c = 10
  · rw [if_pos hc] at hf ⊢
    refine ⟨⟨⟨⟨h1, hf.2⟩, show lineB ⟨#[]⟩ = true from by decide⟩, inB_true h4'.1 (by simp; omega)⟩, ?_⟩
    rw [List.all_append, h5, Bool.true_and]
    simp [h3]
  · rw [if_neg hc] at hf ⊢
    refine ⟨⟨⟨⟨h1, h2⟩, ?_⟩, h4⟩, h5⟩
    unfold lineB at h3 ⊢
    simp only [Bool.and_eq_true, decide_eq_true_eq] at h3 ⊢
    refine ⟨hf.1, ?_⟩
    unfold noLf at h3 ⊢
    rw [ByteArray.data_append, Array.toList_append, List.all_append, h3.2]
    simp [hc]
theorem wrB_name (f : Fil) (c : UInt8) : (wrB f c).name = f.name := by unfold wrB; split <;> rfl
theorem wrF_ok {f : Fil} (h : filB f = true) (l : List UInt8) (hok : wrOk f l = true) : filB (wrF f l) = true ∧ (wrF f l).name = f.name := by
  induction l generalizing f with
  | nil => exact ⟨h, rfl⟩
  | cons c l ih =>
    unfold wrOk at hok
    rw [Bool.and_eq_true] at hok
    have := ih (wrB_ok h hok.1) hok.2
    exact ⟨this.1, this.2.trans (wrB_name f c)⟩
theorem writeP_ok {d : Dev} {t : ByteArray} (h : (writeP d t).2 = 0) : devB (writeP d t).1 = true := by
  unfold writeP at h ⊢
  by_cases hB : devB d = true
  · rw [if_pos hB] at h ⊢
    have hg := DevGood.of hB
    have hscr : scrB d.scr = true := by
      unfold devB at hB
      simp only [Bool.and_eq_true] at hB
      exact hB.1.1.1.1.2
    by_cases hu : d.use = 0
    · rw [if_pos hu]
      have h1 := showTo_scrB hscr t t.size
      exact devB_of ⟨hg.use0, hg.usen, Fine.of_scrB h1, hg.n3, hg.k20, hg.sorted, hg.files, hg.keys⟩ h1
    · rw [if_neg hu] at h ⊢
      unfold writeFil at h ⊢
      have hj : (d.use - 1).toNat < d.files.length := by have := hg.use0; have := hg.usen; omega
      by_cases hok : wrOk (d.files.getD (d.use - 1).toNat filD) t.data.toList = true
      · rw [if_pos hok]
        obtain ⟨h2, h3⟩ := wrF_ok (hg.files _ (getD_mem hj)) _ hok
        refine devB_of ⟨hg.use0, by show _ ≤ (((d.files.set _ _).length : Nat) : Int); rw [List.length_set]; exact hg.usen, hg.fine, by show (d.files.set _ _).length ≤ 3; rw [List.length_set]; exact hg.n3, hg.k20, fun i j hij hjl => ?_, fun f hf => ?_, hg.keys⟩ hscr
        · rw [List.length_set] at hjl
          have hn : ∀ i, i < d.files.length → ((d.files.set (d.use - 1).toNat (wrF (d.files.getD (d.use - 1).toNat filD) t.data.toList)).getD i filD).name = (d.files.getD i filD).name := fun i hi => by
            rw [List.getD_eq_getElem?_getD, List.getElem?_set]
            by_cases e : (d.use - 1).toNat = i
            · rw [if_pos e, if_pos hj, ← e]; exact h3
            · rw [if_neg e, ← List.getD_eq_getElem?_getD]
          show Op.bytesLess ((d.files.set _ _).getD i filD).name.toList ((d.files.set _ _).getD j filD).name.toList = true
          rw [hn i (by omega), hn j hjl]
          exact hg.sorted i j hij hjl
        · rcases List.mem_or_eq_of_mem_set hf with hf | rfl
          · exact hg.files f hf
          · exact h2
      · rw [if_neg hok] at h
        exact absurd h (by decide)
  · rw [if_neg hB] at h
    exact absurd h (by decide)

/-- What the law does, step by step. -/
structure Plan (ls : List ByteArray) (D E : Nat → Dev) (bk : Dev) : Prop where
  one : ∀ k, k < 6 → ∃ x, writeP (D k) (ls.getD k ByteArray.empty) = (x, 0) ∧ writeP x lfT = (D (k + 1), 0) ∧ DevSmall x
  small : ∀ k, DevSmall (D k)
  esmall : ∀ k, k ≤ 6 → DevSmall (E k)
  start : E 0 = D 6
  read : ∀ k, k < 6 → readP (E k) 0 = ⟨E (k + 1), ls.getD k ByteArray.empty, 0⟩
  fin : readP (E 6) 0 = noRd 3
  back : useP (E 6) ⟨#[]⟩ = (bk, 0)
  bsmall : DevSmall bk
  typed : ∀ m, 0 ≤ m → m ≤ 2 → ∃ z t wz, readP bk m = ⟨z, t, 0⟩ ∧ 0 < t.size ∧ t.size ≤ 5 ∧ DevSmall z ∧ closeP z logN = (wz, 0) ∧ wz.files.length = 0 ∧ wz.use = 0
  texts : ∀ k, k < 6 → (ls.getD k ByteArray.empty).size ≤ 9
theorem small_of {d : Dev} (h : devB d = true) : DevSmall d := (DevGood.of h).low.small
theorem plan_of {ls : List ByteArray} (h6 : ls.length = 6) (hls : ∀ y ∈ ls, y ∈ fourLines) : ∃ D E bk, Plan ls D E bk ∧ D 0 = fst 1 blankScr [] ⟨#[]⟩ 0 typedK := by
  have hS : Six ls := ⟨by omega, hls⟩
  have hmem : ∀ k, k < 6 → ls.getD k ByteArray.empty ∈ ls := fun k hk => getD_mem (by omega)
  refine ⟨fun k => fst 1 blankScr (ls.take k) ⟨#[]⟩ 0 typedK, fun k => fst 1 blankScr ls ⟨#[]⟩ k typedK, fst 0 blankScr ls ⟨#[]⟩ ls.length typedK, ⟨fun k hk => ?_, fun k => small_of (six_dev (six_take hS k) (by decide) ⟨by omega, by omega⟩ (by omega)), fun k hk => small_of (six_dev hS (by decide) ⟨by omega, by omega⟩ (by omega)), ?_, fun k hk => ?_, ?_, ?_, small_of (six_dev hS (by decide) ⟨by omega, by omega⟩ (by omega)), fun m h0 h2 => ?_, fun k hk => four_size _ (hls _ (hmem k hk))⟩, rfl⟩
  · have hx := hls _ (hmem k hk)
    have hl : (ls.take k).length < 6 := by rw [List.length_take]; omega
    refine ⟨_, write_line (six_take hS k) hx, ?_, small_of (six_dev (six_take hS k) (four_ok _ hx) ⟨by omega, by omega⟩ (by omega))⟩
    rw [write_lf (six_take hS k) hl hx]
    have e : ls.take k ++ [ls.getD k ByteArray.empty] = ls.take (k + 1) := by
      rw [List.take_succ_eq_append_getElem (by omega), List.getD_eq_getElem?_getD, List.getElem?_eq_getElem (by omega)]; rfl
    rw [e]
  · show fst 1 blankScr ls ⟨#[]⟩ ((0 : Nat) : Int) typedK = fst 1 blankScr (ls.take 6) ⟨#[]⟩ 0 typedK
    rw [List.take_of_length_le (by omega)]; rfl
  · show readP (fst 1 blankScr ls ⟨#[]⟩ (k : Int) typedK) 0 = ⟨fst 1 blankScr ls ⟨#[]⟩ ((k + 1 : Nat) : Int) typedK, _, 0⟩
    rw [read_line hS (by omega)]; rfl
  · have := read_end hS
    rw [h6] at this
    exact this
  · have := use_back hS
    rw [h6] at this ⊢
    exact this
  · obtain ⟨s, t, h1, h2, h3, h4⟩ := read_typed hS ⟨h0, h2⟩
    exact ⟨_, t, _, h4, h2, h3, small_of (fst_ok ⟨by omega, by omega⟩ h1 hS.ok.1 hS.ok.2 (by decide) ⟨by omega, by omega⟩ (by decide) (by decide)), close_log hS h1, rfl, rfl⟩

end Go.Proofs.YtmeholhmadeehaaGreatDoor
