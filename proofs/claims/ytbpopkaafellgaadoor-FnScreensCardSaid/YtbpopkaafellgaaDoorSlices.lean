/- Walks of the helpers on slices: szStringS, toStringS, szInt64S, toInt64S, eqInt64S. -/
import Derived.Test.YtbpopkaafellgaaDoorStr
namespace Go.Proofs.YtbpopkaafellgaaDoor
open Go.RowKit

/-- What the first texts take. -/
def sizeTo (xs : List ByteArray) (k : Nat) : Nat := ((xs.take k).map ByteArray.size).sum
def sizeAll (xs : List ByteArray) : Nat := (xs.map ByteArray.size).sum

theorem sizeTo_succ {xs : List ByteArray} {k : Nat} (h : k < xs.length) : sizeTo xs (k + 1) = sizeTo xs k + (xs.getD k ByteArray.empty).size := by
  unfold sizeTo
  rw [List.take_succ_eq_append_getElem h, List.map_append, List.sum_append, List.getD_eq_getElem?_getD, List.getElem?_eq_getElem h]
  simp

theorem sizeTo_le (xs : List ByteArray) (k : Nat) : sizeTo xs k ≤ sizeAll xs := by
  unfold sizeTo sizeAll
  have : (xs.map ByteArray.size).sum = ((xs.take k).map ByteArray.size).sum + ((xs.drop k).map ByteArray.size).sum := by
    rw [← List.sum_append, ← List.map_append, List.take_append_drop]
  omega

theorem sizeTo_all (xs : List ByteArray) : sizeTo xs xs.length = sizeAll xs := by unfold sizeTo sizeAll; rw [List.take_length]

/-- What is left of a room behind a list of texts; -1 where it does not fit. -/
def leftStrs (left : Nat) (xs : List ByteArray) : Int := if xs.length + sizeAll xs ≤ left then (left : Int) - (xs.length : Int) - (sizeAll xs : Int) else -1
def leftInts (left : Nat) (n : Nat) : Int := if n ≤ left then (left : Int) - (n : Int) else -1

/-- What a walk over sizes leaves of the room: -1, or the room less the cost. -/
def Left (left : Int) (cost : Nat) (n : Int) : Prop := n = -1 ∨ (0 ≤ n ∧ n + (cost : Int) = left)

def costStrs (xs : List ByteArray) : Nat := xs.length + sizeAll xs

theorem mem_le_sizeAll {xs : List ByteArray} {x : ByteArray} (h : x ∈ xs) : x.size ≤ sizeAll xs := by
  induction xs with
  | nil => cases h
  | cons y ys ih =>
    unfold sizeAll at *
    rw [List.map_cons, List.sum_cons]
    rcases List.mem_cons.1 h with h | h
    · rw [h]; omega
    · have := ih h; omega

/-- make([]T, n), then one store a round: the row so far. -/
def copiedTo {α : Type} (d : α) (k : Nat) (xs : List α) : List α := xs.take k ++ List.replicate (xs.length - k) d

theorem copiedTo_len {α : Type} (d : α) (k : Nat) (xs : List α) (h : k ≤ xs.length) : (copiedTo d k xs).length = xs.length := by simp [copiedTo]; omega
theorem copiedTo_zero {α : Type} (d : α) (xs : List α) : copiedTo d 0 xs = List.replicate xs.length d := by simp [copiedTo]
theorem copiedTo_all {α : Type} (d : α) (xs : List α) : copiedTo d xs.length xs = xs := by simp [copiedTo]
theorem copiedTo_succ {α : Type} (d : α) (k : Nat) (xs : List α) (h : k < xs.length) : (copiedTo d k xs).set k (xs.getD k d) = copiedTo d (k + 1) xs := by
  unfold copiedTo
  have e : xs.length - k = (xs.length - (k + 1)) + 1 := by omega
  rw [List.set_append, if_neg (by simp; omega), List.length_take, Nat.min_eq_left (by omega), Nat.sub_self, e, List.replicate_succ, List.set_cons_zero,
    List.take_succ_eq_append_getElem h, List.append_assoc, List.getD_eq_getElem?_getD, List.getElem?_eq_getElem h]
  rfl

theorem infoString : (Tryd.prog.info? 9).map (fun i => (i.zero, i.size, i.bytes)) = some (some (.string ⟨#[]⟩), 1, 16) := by kernel_rfl
theorem infoInt64 : (Tryd.prog.info? 2).map (fun i => (i.zero, i.size, i.bytes)) = some (some (.int .i64 0), 1, 8) := by kernel_rfl

theorem make_row {P : Program} {α : Type} (enc : α → Value) (d : α) (t e : TypeId) (ht : P.underlying t = some (.slice e)) {by_ : Nat} (hby : by_ ≤ 16) (hone : (enc d).cells = #[enc d])
    (hinfo : (P.info? e).map (fun i => (i.zero, i.size, i.bytes)) = some (some (enc d), 1, by_)) (n : Nat) (hn : n ≤ 1048576) (w : World) :
    (Instr.makeSlice t (.int .i64 (n : Int)) (.int .i64 (n : Int))).run P w = .ok (.slice (some ⟨w.heap.size, 0, none⟩) n n) (w.alloc (.cells (List.replicate n (enc d)).toArray e)) := by
  obtain ⟨i0, hi0, hz0, hz1, hz2⟩ := info_parts hinfo
  have hb : (i0.bytes : Int) * (n : Int) ≤ 281474976710656 := by
    have h : ((i0.bytes * n : Nat) : Int) ≤ 281474976710656 := by
      have := Nat.mul_le_mul (show i0.bytes ≤ 16 by omega) hn
      omega
    rwa [Int.natCast_mul] at h
  have hr := run_make (P := P) w t e i0 (enc d) ht hi0 hz0 .i64 .i64 n n (by omega) (by omega) hb (by omega)
  simp only [Int.toNat_natCast] at hr
  rw [hr, hz1, Nat.mul_one, hone]
  congr 3
  rw [← Array.toList_inj, toList_madeCells_one]

theorem own_made {α : Type} (enc : α → Value) (d : α) (w : World) (e : TypeId) (n : Nat) (hn : n ≤ 1048576) :
    (w.alloc (.cells (List.replicate n (enc d)).toArray e)).ownsRow w.heap.size e 1 (.slice (some ⟨w.heap.size, 0, none⟩) n n) n ((List.replicate n d).map enc) := by
  have := World.ownsRow_lit (base := w.heap.size) (e := e) (size := 1) w (List.replicate n (enc d)).toArray n (Nat.le_refl _) (by unfold maxLen; omega) (by simp)
  simpa using this

theorem take_eq_succ_int {xs ys : List Int} {k n : Nat} (hx : xs.length = n) (hy : ys.length = n) (hk : k < n) (h : xs.take k = ys.take k) (he : xs.getD k 0 = ys.getD k 0) :
    xs.take (k + 1) = ys.take (k + 1) := by
  rw [List.take_succ_eq_append_getElem (by omega), List.take_succ_eq_append_getElem (by omega), h]
  simp only [List.getD_eq_getElem?_getD, List.getElem?_eq_getElem (show k < xs.length by omega), List.getElem?_eq_getElem (show k < ys.length by omega), Option.getD_some] at he
  rw [he]

end Go.Proofs.YtbpopkaafellgaaDoor
