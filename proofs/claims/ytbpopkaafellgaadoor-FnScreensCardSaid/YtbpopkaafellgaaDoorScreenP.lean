/- A screen behind a pointer; blanks; a new row (the reference's). -/
import Derived.Test.YtbpopkaafellgaaDoorScreenTo
namespace Go.Proofs.YtbpopkaafellgaaDoor
open Go.RowKit

/-- Texts in a block of the call's own, from an offset on. -/
def OwnO (w : World) (base b off cap : Nat) (xs : List ByteArray) : Prop :=
  base ≤ b ∧ ∃ cur, Blk w b 9 cur ∧ cur.size = off + cap ∧ xs.length ≤ cap ∧ cap ≤ maxLen ∧ (cur.toList.drop off).take xs.length = xs.map Value.string

theorem OwnO.get {w : World} {base b off cap : Nat} {xs : List ByteArray} (h : OwnO w base b off cap xs) {j : Nat} (hj : j < xs.length) : w.cell? ⟨b, off + j, none⟩ = some (.string (xs.getD j ByteArray.empty)) := by
  obtain ⟨_, cur, hB, hs, hl, _, ht⟩ := h
  rw [hB.cell, ← Array.getElem?_toList]
  have h2 : ((cur.toList.drop off).take xs.length)[j]? = cur.toList[off + j]? := by rw [List.getElem?_take, if_pos hj, List.getElem?_drop]
  rw [← h2, ht, List.getElem?_map, List.getElem?_eq_getElem hj]
  simp [List.getD_eq_getElem?_getD, List.getElem?_eq_getElem hj]
theorem OwnO.frozen {w : World} {base b off cap : Nat} {xs : List ByteArray} (h : OwnO w base b off cap xs) (i : Nat) : w.frozen? ⟨b, i, none⟩ = false := by
  obtain ⟨_, cur, hB, _⟩ := h
  exact hB.frozen i
theorem OwnO.lt {w : World} {base b off cap : Nat} {xs : List ByteArray} (h : OwnO w base b off cap xs) : b < w.heap.size := by
  obtain ⟨_, cur, hB, _⟩ := h
  exact hB.lt
theorem OwnO.keep {w w' : World} {base b off cap : Nat} {xs : List ByteArray} (h : OwnO w base b off cap xs) (hk : w'.heap[b]? = w.heap[b]?) : OwnO w' base b off cap xs := by
  obtain ⟨h1, cur, hB, r⟩ := h
  exact ⟨h1, cur, hk.trans hB, r⟩
theorem OwnO.below {w w' : World} {base b off cap : Nat} {xs : List ByteArray} (h : OwnO w base b off cap xs) (hb : Below w.heap.size w w') : OwnO w' base b off cap xs := h.keep (hb.block b h.lt)
theorem OwnO.far {w : World} {base b off cap : Nat} {xs : List ByteArray} (h : OwnO w base b off cap xs) {p : Addr} (hp : b ≠ p.block) (u : Value) : OwnO (w.setCell p u) base b off cap xs := h.keep (Below.heap_setCell w p u b hp)
theorem OwnO.put {w : World} {base b off cap : Nat} {xs : List ByteArray} (h : OwnO w base b off cap xs) {j : Nat} (_ : j < xs.length) (y : ByteArray) : OwnO (w.setCell ⟨b, off + j, none⟩ (.string y)) base b off cap (xs.set j y) := by
  obtain ⟨h1, cur, hB, hs, hl, hm, ht⟩ := h
  refine ⟨h1, _, hB.set_ (off + j) (.string y), by simpa using hs, by simpa using hl, hm, ?_⟩
  rw [Array.toList_setIfInBounds, List.length_set, List.map_set, ← ht, List.drop_set]
  rw [if_neg (by omega), List.take_set]
  congr 1
  omega
theorem OwnO.of_own {w : World} {base : Nat} {A : Option Addr} {n c : Nat} {xs : List ByteArray} (h : w.ownsRow base 9 1 (.slice A n c) n (xs.map Value.string)) (hn : 0 < n) : ∃ b, A = some ⟨b, 0, none⟩ ∧ OwnO w base b 0 c xs := by
  have hl : xs.length = n := by have := h.1; simpa using this
  rcases h.2 with ⟨_, h0⟩ | ⟨g, cap, cur, hv, hg, hh, hnc, hcm, hsz, htk⟩
  · omega
  · injection hv with hA _ hc
    subst hc
    exact ⟨g, hA, hg, cur, hh, by rw [hsz]; omega, by omega, hcm, by rw [List.drop_zero, hl]; simpa using htk⟩
theorem OwnO.to_own {w : World} {base b cap : Nat} {xs : List ByteArray} (h : OwnO w base b 0 cap xs) : w.ownsRow base 9 1 (.slice (some ⟨b, 0, none⟩) xs.length cap) xs.length (xs.map Value.string) := by
  obtain ⟨h1, cur, hB, hs, hl, hm, ht⟩ := h
  exact ⟨by simp, .inr ⟨b, cap, cur, rfl, h1, hB, hl, hm, by rw [hs]; omega, by simpa using ht⟩⟩

/-- A screen behind a pointer: its three cells in block g, its rows in a block of the call's own. -/
def ScrP (w : World) (base g : Nat) (s : Scr) : Prop :=
  base ≤ g ∧ ∃ b off cap, g ≠ b ∧ Blk w g 26 #[.int .i64 s.row, .int .i64 s.col, .slice (some ⟨b, off, none⟩) s.rows.length cap] ∧ OwnO w base b off cap s.rows

theorem ScrP.below {w w' : World} {base g : Nat} {s : Scr} (h : ScrP w base g s) (hb : Below w.heap.size w w') : ScrP w' base g s := by
  obtain ⟨h1, b, off, cap, hne, hB, hO⟩ := h
  exact ⟨h1, b, off, cap, hne, hB.below hb hB.lt, hO.below hb⟩

theorem infoByte : (Tryd.prog.info? 5).map (fun i => (i.zero, i.size, i.bytes)) = some (some (.int .u8 0), 1, 1) := by kernel_rfl

abbrev encB : UInt8 → Value := fun c => .int .u8 (c.toNat : Int)

theorem convert_own {w : World} {base : Nat} {v : Value} {xs : List UInt8} (h : OwnR encB w base 5 v xs) :
    (convert 22 9 v).run Tryd.prog w = .ok (.string ⟨xs.toArray⟩) w := by
  obtain ⟨⟨A, c, rfl⟩, ho⟩ := h
  by_cases h0 : 0 < xs.length
  · obtain ⟨b, off, rfl, _, _, hc⟩ := (RowR.of_own (enc := encB) (d := 0) ho).2 h0
    have := run_convert_bytes_arg (P := Tryd.prog) w 22 5 Tryd.underlying22 Tryd.underlying5 b off xs.length c (xs.map fun c => (c.toNat : Int)) (by simp) (fun i hi => by
      rw [hc i hi]
      simp [List.getD_eq_getElem?_getD, List.getElem?_eq_getElem hi]) 9 Tryd.underlying9
    have e : strOfNums (xs.map fun c => (c.toNat : Int)) = ⟨xs.toArray⟩ := by
      unfold strOfNums
      rw [List.map_map]
      have : ((fun n : Int => UInt8.ofNat n.toNat) ∘ fun c : UInt8 => (c.toNat : Int)) = id := by
        funext c
        simp
      rw [this, List.map_id]
    rw [this, e]
  · have hx : xs = [] := List.eq_nil_of_length_eq_zero (by omega)
    subst hx
    cases A with
    | none => exact run_convert_bytes_nil (P := Tryd.prog) w 22 5 Tryd.underlying22 Tryd.underlying5 _ _ 9 Tryd.underlying9
    | some a =>
      rw [run_convert_bytes_string w 22 9 5 _ _ _ Tryd.underlying22 Tryd.underlying5 Tryd.underlying9, run_bytesToString w a _ _ [] (by simp [loadCells, loadCellsFrom])]
      rfl

set_option maxHeartbeats 1000000 in
theorem l31Blanks_any (n : Int) (w : World) (hn0 : 0 ≤ n) (hn : n ≤ 1000) :
    Calls Tryd.prog 38 #[.int .i64 n] w fun e w' => e = .returned (.string (blanks n.toNat)) ∧ Below w.heap.size w w' := by
  obtain ⟨m, rfl⟩ := Int.eq_ofNat_of_zero_le hn0
  rw [Int.toNat_natCast]
  go_enter Tryd.func38, Tryd.ntmps38
  go_wp2_with fail
  go_loopw [3, 4] (fun v i wr => ∃ k : Nat, k ≤ m ∧ i = .int .i64 k ∧ OwnR encB wr w.heap.size 5 v (List.replicate k (32 : UInt8)) ∧ Below w.heap.size w wr) (fun _ i _ => m - (intOf i).toNat)
  case atStart => exact ⟨0, Nat.zero_le _, rfl, OwnR.none_ _ _ _ (Nat.le_refl _), (Below.refl _ _).alloc (Nat.le_refl _) _⟩
  case round =>
    obtain ⟨k, hk, rfl, hown, hbel⟩ := hrel
    by_cases hlt : k < m
    · have HR := Lib.hid (show List.replicate k (32 : UInt8) ++ [32] = List.replicate (k + 1) 32 from List.replicate_append_replicate (m := 1))
      have hl : (List.replicate k (32 : UInt8)).length ≤ 1000000000 := by simp; omega
      generalize List.replicate k (32 : UInt8) = L at *
      go_wp2_with (at_builtin; refine wpList_app1 (enc := encB) rfl (.tmp 11) (.tmp 12) 22 5 rfl Tryd.underlying22 rfl (by omega) (fun _ => rfl) infoByte wr w.heap.size _ L (32 : UInt8) rfl hown rfl hl hbel.size ?_; intro v1 w1 hown1 hb1)
      go_roundw
      case rel => exact ⟨k + 1, by omega, by go_num, by rw [← HR.out]; exact hown1, hbel.trans hb1⟩
      case measure => simp [intOf]; omega
    · obtain rfl : k = m := by omega
      have hcv := convert_own hown
      have HC := Lib.hid (show ByteArray.mk (List.replicate k (32 : UInt8)).toArray = blanks k from rfl)
      generalize List.replicate k (32 : UInt8) = L at *
      clear hown
      go_wp2_with fail
      go_ret
      exact ⟨by rw [← HC.out]; rfl, hbel⟩

end Go.Proofs.YtbpopkaafellgaaDoor
