/- Walks of the helpers on slices: szStringS, toStringS, szInt64S, toInt64S, eqInt64S. -/
import Derived.Test.YtlodlplfmpikjaaGreatStr
namespace Go.Proofs.YtlodlplfmpikjaaGreat
open Go.RowKit

/-- What the first texts take. -/
def sizeTo (xs : List ByteArray) (k : Nat) : Nat := ((xs.take k).map ByteArray.size).sum
def sizeAll (xs : List ByteArray) : Nat := (xs.map ByteArray.size).sum

theorem sizeTo_succ {xs : List ByteArray} {k : Nat} (h : k < xs.length) : sizeTo xs (k + 1) = sizeTo xs k + (xs.getD k ByteArray.empty).size := by
  unfold sizeTo
  rw [List.take_succ_eq_append_getElem h, List.map_append, List.sum_append, List.getD_eq_getElem?_getD, List.getElem?_eq_getElem h]
  simp

theorem sizeTo_le (xs : List ByteArray) (k : Nat) : sizeTo xs k ≤ sizeAll xs := by
  unfold sizeTo sizeAll
  have : (xs.map ByteArray.size).sum = ((xs.take k).map ByteArray.size).sum + ((xs.drop k).map ByteArray.size).sum := by
    rw [← List.sum_append, ← List.map_append, List.take_append_drop]
  omega

theorem sizeTo_all (xs : List ByteArray) : sizeTo xs xs.length = sizeAll xs := by unfold sizeTo sizeAll; rw [List.take_length]

/-- What is left of a room behind a list of texts; -1 where it does not fit. -/
def leftStrs (left : Nat) (xs : List ByteArray) : Int := if xs.length + sizeAll xs ≤ left then (left : Int) - (xs.length : Int) - (sizeAll xs : Int) else -1
def leftInts (left : Nat) (n : Nat) : Int := if n ≤ left then (left : Int) - (n : Int) else -1

set_option maxHeartbeats 400000 in
theorem szStringS_any (A : Option Addr) (n c lo hi left : Nat) (xs : List ByteArray) (w : World) (ha : StrR w lo hi A n xs) (hn : n ≤ 9223372036854775807) (hl : left ≤ 1048576) (hb : ∀ x ∈ xs, x.size ≤ 9223372036854775807) :
    Calls Tryz.prog 11 #[.slice A n c, .int .i64 left] w fun e w' => e = .returned (.int .i64 (leftStrs left xs)) ∧ w' = w := by
  by_cases hfit : n ≤ left
  · have hd : ¬ ((left : Int) - (n : Int) < 0) := by omega
    go_enter Tryz.func11, Tryz.ntmps11
    go_wp2
    go_loop [1, 5] (fun s i => ∃ k : Nat, k ≤ n ∧ i = .int .i64 k ∧ s = .int .i64 ((left : Int) - (n : Int) - (sizeTo xs k : Int)) ∧ n + sizeTo xs k ≤ left) (fun _ i => n - (intOf i).toNat)
    case atStart => exact ⟨0, Nat.zero_le _, rfl, by simp [sizeTo], by simpa [sizeTo] using hfit⟩
    case round =>
      obtain ⟨k, hk, rfl, rfl, hsum⟩ := hrel
      by_cases hlt : k < n
      · obtain ⟨b, off, rfl, _, _, hcell⟩ := ha.at_ hlt
        have hs := sizeTo_succ (xs := xs) (k := k) (by rw [ha.1]; exact hlt)
        have hxl : (xs.getD k ByteArray.empty).size ≤ 9223372036854775807 := by
          rw [List.getD_eq_getElem?_getD, List.getElem?_eq_getElem (by rw [ha.1]; exact hlt)]
          exact hb _ (List.getElem_mem _)
        have hle := sizeTo_le xs (k + 1)
        have hlen := ha.1
        generalize hX : xs.getD k ByteArray.empty = X at *
        clear hX
        generalize hs1 : sizeTo xs (k + 1) = s1 at *
        generalize hs0 : sizeTo xs k = s0 at *
        have HS := Lib.hid hs; have HS1 := Lib.hid hs1; clear hs hs1 hs0 hb ha
        have HL := Lib.hid hlen; clear hlen
        by_cases hok : n + s0 + X.size ≤ left
        · have hd2 : ¬ ((left : Int) - (n : Int) - (s0 : Int) - (X.size : Int) < 0) := by omega
          go_wp2
          go_round
          case rel => exact ⟨k + 1, by omega, by go_num, by rw [HS1.out, HS.out]; congr 1; omega, by rw [HS1.out, HS.out]; omega⟩
          case measure => simp [intOf]; omega
        · have hd2 : ((left : Int) - (n : Int) - (s0 : Int) - (X.size : Int) < 0) := by omega
          go_wp2
          go_ret
          refine ⟨?_, rfl⟩
          unfold leftStrs
          rw [if_neg (by have := HS.out; have := HL.out; omega)]
          rfl
      · go_wp2
        go_ret
        obtain rfl : k = n := by omega
        refine ⟨?_, rfl⟩
        have h1 := ha.1
        subst h1
        rw [sizeTo_all] at *
        unfold leftStrs
        rw [if_pos hsum]
        rfl
  · have hd : ((left : Int) - (n : Int) < 0) := by omega
    go_enter Tryz.func11, Tryz.ntmps11
    go_wp2
    go_ret
    refine ⟨?_, rfl⟩
    unfold leftStrs
    rw [if_neg (by rw [ha.1]; omega)]
    rfl

/-- What a walk over sizes leaves of the room: -1, or the room less the cost. -/
def Left (left : Int) (cost : Nat) (n : Int) : Prop := n = -1 ∨ (0 ≤ n ∧ n + (cost : Int) = left)

def costStrs (xs : List ByteArray) : Nat := xs.length + sizeAll xs

theorem szStringS_l (A : Option Addr) (n c lo hi : Nat) (left : Int) (xs : List ByteArray) (w : World) (ha : StrR w lo hi A n xs) (hn : n ≤ 140737488351232) (hl0 : 0 ≤ left) (hl : left ≤ 1048576) (hb : ∀ x ∈ xs, x.size ≤ 140737488351232) :
    Calls Tryz.prog 11 #[.slice A n c, .int .i64 left] w fun e w' => ∃ m, e = .returned (.int .i64 m) ∧ Left left (costStrs xs) m ∧ w = w' := by
  obtain ⟨k, rfl⟩ := Int.eq_ofNat_of_zero_le hl0
  refine (szStringS_any A n c lo hi k xs w ha (by omega) (by omega) (fun x hx => by have := hb x hx; omega)).mono fun e w' ⟨he, hw⟩ => ⟨_, he, ?_, hw.symm⟩
  unfold leftStrs Left costStrs
  split
  · right; omega
  · left; rfl

theorem mem_le_sizeAll {xs : List ByteArray} {x : ByteArray} (h : x ∈ xs) : x.size ≤ sizeAll xs := by
  induction xs with
  | nil => cases h
  | cons y ys ih =>
    unfold sizeAll at *
    rw [List.map_cons, List.sum_cons]
    rcases List.mem_cons.1 h with h | h
    · rw [h]; omega
    · have := ih h; omega

/-- make([]T, n), then one store a round: the row so far. -/
def copiedTo {α : Type} (d : α) (k : Nat) (xs : List α) : List α := xs.take k ++ List.replicate (xs.length - k) d

theorem copiedTo_len {α : Type} (d : α) (k : Nat) (xs : List α) (h : k ≤ xs.length) : (copiedTo d k xs).length = xs.length := by simp [copiedTo]; omega
theorem copiedTo_zero {α : Type} (d : α) (xs : List α) : copiedTo d 0 xs = List.replicate xs.length d := by simp [copiedTo]
theorem copiedTo_all {α : Type} (d : α) (xs : List α) : copiedTo d xs.length xs = xs := by simp [copiedTo]
theorem copiedTo_succ {α : Type} (d : α) (k : Nat) (xs : List α) (h : k < xs.length) : (copiedTo d k xs).set k (xs.getD k d) = copiedTo d (k + 1) xs := by
  unfold copiedTo
  have e : xs.length - k = (xs.length - (k + 1)) + 1 := by omega
  rw [List.set_append, if_neg (by simp; omega), List.length_take, Nat.min_eq_left (by omega), Nat.sub_self, e, List.replicate_succ, List.set_cons_zero,
    List.take_succ_eq_append_getElem h, List.append_assoc, List.getD_eq_getElem?_getD, List.getElem?_eq_getElem h]
  rfl

theorem infoString : (Tryz.prog.info? 9).map (fun i => (i.zero, i.size, i.bytes)) = some (some (.string ⟨#[]⟩), 1, 16) := by kernel_rfl
theorem infoInt64 : (Tryz.prog.info? 2).map (fun i => (i.zero, i.size, i.bytes)) = some (some (.int .i64 0), 1, 8) := by kernel_rfl

theorem make_row {P : Program} {α : Type} (enc : α → Value) (d : α) (t e : TypeId) (ht : P.underlying t = some (.slice e)) {by_ : Nat} (hby : by_ ≤ 16) (hone : (enc d).cells = #[enc d])
    (hinfo : (P.info? e).map (fun i => (i.zero, i.size, i.bytes)) = some (some (enc d), 1, by_)) (n : Nat) (hn : n ≤ 1048576) (w : World) :
    (Instr.makeSlice t (.int .i64 (n : Int)) (.int .i64 (n : Int))).run P w = .ok (.slice (some ⟨w.heap.size, 0, none⟩) n n) (w.alloc (.cells (List.replicate n (enc d)).toArray e)) := by
  obtain ⟨i0, hi0, hz0, hz1, hz2⟩ := info_parts hinfo
  have hb : (i0.bytes : Int) * (n : Int) ≤ 281474976710656 := by
    have h : ((i0.bytes * n : Nat) : Int) ≤ 281474976710656 := by
      have := Nat.mul_le_mul (show i0.bytes ≤ 16 by omega) hn
      omega
    rwa [Int.natCast_mul] at h
  have hr := run_make (P := P) w t e i0 (enc d) ht hi0 hz0 .i64 .i64 n n (by omega) (by omega) hb (by omega)
  simp only [Int.toNat_natCast] at hr
  rw [hr, hz1, Nat.mul_one, hone]
  congr 3
  rw [← Array.toList_inj, toList_madeCells_one]

theorem own_made {α : Type} (enc : α → Value) (d : α) (w : World) (e : TypeId) (n : Nat) (hn : n ≤ 1048576) :
    (w.alloc (.cells (List.replicate n (enc d)).toArray e)).ownsRow w.heap.size e 1 (.slice (some ⟨w.heap.size, 0, none⟩) n n) n ((List.replicate n d).map enc) := by
  have := World.ownsRow_lit (base := w.heap.size) (e := e) (size := 1) w (List.replicate n (enc d)).toArray n (Nat.le_refl _) (by unfold maxLen; omega) (by simp)
  simpa using this

set_option maxHeartbeats 400000 in
theorem toStringS_any (A : Option Addr) (n c lo hi : Nat) (xs : List ByteArray) (w : World) (ha : StrR w lo hi A n xs) (hhi : hi ≤ w.heap.size) (hn : n ≤ 1048576) :
    Calls Tryz.prog 21 #[.slice A n c] w fun e w' => ∃ v, e = .returned v ∧ OwnStrs w' w.heap.size 9 v xs ∧ Below w.heap.size w w' := by
  have hmk := fun W => make_row (P := Tryz.prog) Value.string ByteArray.empty 22 9 Tryz.underlying22 (by omega) rfl infoString n hn W
  have hl := ha.1
  subst hl
  have H0 := Lib.hid (own_made Value.string ByteArray.empty w 9 xs.length hn)
  have HA := Lib.hid ((Below.refl w.heap.size w).alloc (Nat.le_refl _) (.cells (List.replicate xs.length (Value.string ByteArray.empty)).toArray 9))
  go_enter Tryz.func21, Tryz.ntmps21
  go_wp2
  go_loopw [4] (fun i wr => ∃ k : Nat, k ≤ xs.length ∧ i = .int .i64 k ∧ wr.ownsRow w.heap.size 9 1 (.slice (some ⟨w.heap.size, 0, none⟩) xs.length xs.length) xs.length ((copiedTo ByteArray.empty k xs).map Value.string) ∧ Below w.heap.size w wr) (fun i _ => xs.length - (intOf i).toNat)
  case atStart => exact ⟨0, Nat.zero_le _, rfl, by rw [copiedTo_zero]; simpa using H0.out, by simpa using HA.out⟩
  case round =>
    clear hmk
    obtain ⟨k, hk, rfl, hown, hbel⟩ := hrel
    by_cases hlt : k < xs.length
    · obtain ⟨b, off, rfl, _, hb, hcell⟩ := (ha.below hbel hhi).at_ hlt
      have hc := hown.cellAt k (by omega)
      have hf := hown.frozenAt k
      rw [List.getElem?_map, List.getElem?_eq_getElem (by rw [copiedTo_len _ _ _ hk]; exact hlt)] at hc
      simp only [Option.map_some] at hc
      have hst := hown.stored k (Value.string (xs.getD k ByteArray.empty))
      rw [← List.map_set, copiedTo_succ _ _ _ hlt] at hst
      have hb2 := hbel.grown hst.2 hbel.size (fun g hg => by injection hg with hg; omega)
      have HS := Lib.hid hst.1
      generalize xs.getD k ByteArray.empty = X at *
      clear hst hown H0 HA
      go_wp2
      go_roundw
      case rel => exact ⟨k + 1, by omega, by go_num, HS.out, hb2⟩
      case measure => simp [intOf]; omega
    · go_wp2
      go_ret
      obtain rfl : k = xs.length := by omega
      rw [copiedTo_all] at hown
      exact ⟨_, rfl, ⟨⟨_, _, rfl⟩, hown⟩, hbel⟩

theorem take_eq_succ_int {xs ys : List Int} {k n : Nat} (hx : xs.length = n) (hy : ys.length = n) (hk : k < n) (h : xs.take k = ys.take k) (he : xs.getD k 0 = ys.getD k 0) :
    xs.take (k + 1) = ys.take (k + 1) := by
  rw [List.take_succ_eq_append_getElem (by omega), List.take_succ_eq_append_getElem (by omega), h]
  simp only [List.getD_eq_getElem?_getD, List.getElem?_eq_getElem (show k < xs.length by omega), List.getElem?_eq_getElem (show k < ys.length by omega), Option.getD_some] at he
  rw [he]

end Go.Proofs.YtlodlplfmpikjaaGreat
