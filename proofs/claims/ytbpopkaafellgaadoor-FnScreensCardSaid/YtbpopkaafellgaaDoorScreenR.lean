/- Walks: slices.Repeat of one text six times; the program's NewScreen. -/
import Derived.Test.YtbpopkaafellgaaDoorScreenI
import Derived.Test.YtbpopkaafellgaaDoorShelfR
import Derived.Laws.CopyOwn
namespace Go.Proofs.YtbpopkaafellgaaDoor
open Go.RowKit

def sixOf (k : Nat) (y : ByteArray) : List Value := List.replicate k (.string y) ++ List.replicate (6 - k) (.string ByteArray.empty)
theorem sixOf_len {k : Nat} (h : k ≤ 6) (y : ByteArray) : (sixOf k y).length = 6 := by simp [sixOf]; omega
theorem sixOf_splice (k m : Nat) (h : k + m ≤ 6) (y : ByteArray) : splice (sixOf k y) k (List.replicate m (.string y)) = sixOf (k + m) y := by
  unfold splice sixOf
  rw [List.take_append_of_le_length (by simp), List.take_of_length_le (by simp), List.length_replicate, List.drop_append, List.drop_eq_nil_of_le (by simp)]
  simp only [List.length_replicate, List.nil_append, List.drop_replicate]
  rw [show 6 - k - (k + m - k) = 6 - (k + m) by omega, ← List.append_assoc, List.replicate_append_replicate]
theorem sixOf_get (k j : Nat) (h : j < k) (y : ByteArray) : (sixOf k y)[j]? = some (.string y) := by
  unfold sixOf
  rw [List.getElem?_append_left (by simpa using h), List.getElem?_replicate, if_pos h]

theorem sizeString : (Tryd.prog.info? 9).map (·.size) = some 1 := by kernel_rfl

theorem copy6 (W : World) (y : ByteArray) (g k m d d' s s' : Nat) (ad : Addr) (hg : W.heap[g]? = some (.cells (sixOf k y).toArray 9 (0, 0))) (hk : k + m ≤ 6) (hm : m = Nat.min s d)
    (hsrc : ∀ j, j < m → W.cell? (ad.add j) = some (.string y)) :
    ∃ W', (Builtin.copy_ #[24, 24] 3 #[.slice (some ⟨g, k, none⟩) d d', .slice (some ad) s s']).run Tryd.prog W = .ok (.int .i64 m) W' ∧ W'.heap[g]? = some (.cells (sixOf (k + m) y).toArray 9 (0, 0)) ∧ Below g W W' := by
  have hrun := run_copy_row (P := Tryd.prog) W 24 24 3 9 g k d d' ad s s' (sixOf k y).toArray 9 (List.replicate m (.string y)) Tryd.underlying24 sizeString hg (by simpa using hm)
    (fun j v hj => by
      rw [List.getElem?_replicate] at hj
      split at hj
      · injection hj with hj; subst hj; exact hsrc j (by assumption)
      · cases hj) (by have := sixOf_len (show k ≤ 6 by omega) y; simp; omega) (fun v hv => by rw [(List.mem_replicate.1 hv).2]; rfl)
  have h3 := sixOf_splice k m hk y
  unfold splice at h3
  rw [List.length_replicate] at h3
  refine ⟨W.setRow g (sixOf (k + m) y).toArray, ?_, setRow_heap W g _ _ 9 _ hg, below_setRow (Below.refl _ _) (Nat.le_refl _) _⟩
  rw [hrun, ← h3]
  simp [goInt]

theorem six_src {W : World} {y : ByteArray} {g k m : Nat} (hg : W.heap[g]? = some (.cells (sixOf k y).toArray 9 (0, 0))) (hm : m ≤ k) : ∀ j, j < m → W.cell? ((⟨g, 0, none⟩ : Addr).add j) = some (.string y) := fun j hj => by
  have : (⟨g, 0, none⟩ : Addr).add j = ⟨g, j, none⟩ := by unfold Addr.add; split <;> simp_all
  rw [this]
  have := sixOf_get k j (by omega) y
  simp [World.cell?, hg, this]

set_option maxHeartbeats 2000000 in
set_option maxRecDepth 100000 in
theorem repeat6_any (y : ByteArray) (b c : Nat) (w : World) (hy : w.cell? ⟨b, 0, none⟩ = some (.string y)) (hb : b < w.heap.size) :
    Calls Tryd.prog 44 #[.slice (some ⟨b, 0, none⟩) 1 c, .int .i64 6] w fun e w' => e = .returned (.slice (some ⟨w.heap.size, 0, none⟩) 6 6) ∧ OwnO w' w.heap.size w.heap.size 0 6 (List.replicate 6 y) ∧ Below w.heap.size w w' := by
  have hmk : ∀ W : World, (Instr.makeSlice 24 (.int .i64 6) (.int .i64 6)).run Tryd.prog W = .ok (.slice (some ⟨W.heap.size, 0, none⟩) 6 6) (W.alloc (.cells (sixOf 0 y).toArray 9)) :=
    fun W => make_row (P := Tryd.prog) Value.string ByteArray.empty 24 9 Tryd.underlying24 (by omega) rfl infoString 6 (by omega) W
  have HM := Lib.hid (Tryd.bits_Mul 1 6 (by omega) (by omega))
  have hD := (Below.refl w.heap.size w).alloc (Nat.le_refl _) (.cells (sixOf 0 y).toArray 9)
  obtain ⟨w2, hr2, hh2, hb2⟩ := copy6 (w.alloc (.cells (sixOf 0 y).toArray 9)) y w.heap.size 0 1 6 6 1 c ⟨b, 0, none⟩ (heap_alloc_new w _) (by omega) rfl (fun j hj => by
    obtain rfl : j = 0 := by omega
    exact (World.cell?_of_block (hD.block b hb)).trans hy)
  have H2 := Lib.hid (show w2.heap[w.heap.size]? = some (.cells (sixOf 1 y).toArray 9 (0, 0)) ∧ Below w.heap.size w w2 from ⟨hh2, hD.trans hb2⟩)
  clear hy hh2 hb2 hD
  go_enter Tryd.func44, Tryd.ntmps44
  go_wp2_with fail
  refine (HM.out _).mono ?_
  rintro e1 w1 ⟨rfl, rfl⟩
  go_wp2_with fail
  clear hmk hr2
  go_loopw [8] (fun n wr => ∃ k : Nat, (k = 1 ∨ k = 2 ∨ k = 4 ∨ k = 6) ∧ n = .int .i64 k ∧ wr.heap[w1.heap.size]? = some (.cells (sixOf k y).toArray 9 (0, 0)) ∧ Below w1.heap.size w1 wr) (fun n _ => 6 - (intOf n).toNat)
  case atStart => exact ⟨1, by omega, rfl, H2.out.1, H2.out.2⟩
  case round =>
    obtain ⟨k, hk, rfl, hh, hb3⟩ := hrel
    have hhd : wr.drew.heap[w1.heap.size]? = some (.cells (sixOf k y).toArray 9 (0, 0)) := hh
    have hbd : Below w1.heap.size w1 wr.drew := hb3.drew
    rcases hk with rfl | rfl | rfl | rfl
    · obtain ⟨w4, hr, hh4, hb4⟩ := copy6 wr.drew y w1.heap.size 1 1 5 5 1 6 ⟨w1.heap.size, 0, none⟩ hhd (by omega) rfl (six_src hhd (by omega))
      have H4 := Lib.hid (And.intro hh4 (hbd.trans hb4))
      clear hh hb3 hhd hbd hh4 hb4
      go_wp2_with fail
      go_region
      go_wp2_with fail
      go_roundw
      case rel => exact ⟨2, by omega, rfl, H4.out.1, H4.out.2⟩
      case measure => simp [intOf]
    · obtain ⟨w4, hr, hh4, hb4⟩ := copy6 wr.drew y w1.heap.size 2 2 4 4 2 6 ⟨w1.heap.size, 0, none⟩ hhd (by omega) rfl (six_src hhd (by omega))
      have H4 := Lib.hid (And.intro hh4 (hbd.trans hb4))
      clear hh hb3 hhd hbd hh4 hb4
      go_wp2_with fail
      go_region
      go_wp2_with fail
      go_roundw
      case rel => exact ⟨4, by omega, rfl, H4.out.1, H4.out.2⟩
      case measure => simp [intOf]
    · obtain ⟨w4, hr, hh4, hb4⟩ := copy6 wr.drew y w1.heap.size 4 2 2 2 4 6 ⟨w1.heap.size, 0, none⟩ hhd (by omega) rfl (six_src hhd (by omega))
      have H4 := Lib.hid (And.intro hh4 (hbd.trans hb4))
      clear hh hb3 hhd hbd hh4 hb4
      go_wp2_with fail
      go_region
      go_wp2_with fail
      go_roundw
      case rel => exact ⟨6, by omega, rfl, H4.out.1, H4.out.2⟩
      case measure => simp [intOf]
    · have H4 := Lib.hid (And.intro hh hb3)
      clear hh hb3 hhd hbd
      go_wp2_with fail
      go_ret
      refine ⟨rfl, ⟨Nat.le_refl _, _, H4.out.1, ?_, ?_, ?_, ?_⟩, H4.out.2⟩
      · simp [sixOf]
      · simp
      · unfold maxLen; omega
      · simp [sixOf]

end Go.Proofs.YtbpopkaafellgaaDoor
