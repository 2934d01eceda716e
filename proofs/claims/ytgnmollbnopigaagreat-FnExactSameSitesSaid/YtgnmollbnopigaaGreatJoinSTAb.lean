/- Walks of the helpers on slices of strings: eqStringS, markText, markStringS, heldStringS. -/
import Derived.Test.YtgnmollbnopigaaGreatProg
import Derived.Test.YtgnmollbnopigaaGreatJoinSTAa
import Derived.Test.YtgnmollbnopigaaGreatRows
import Derived.WalkKit
import Derived.ProofKit
import Derived.OpenShut
import Derived.ShutString
import Derived.Deep.Slices
import Derived.Deep.Fields
import Derived.ChangeSame
import Derived.SizedLaws
import Derived.SliceStrings
set_option maxHeartbeats 16000000
set_option maxRecDepth 100000
namespace Go.Proofs.YtgnmollbnopigaaGreat
open Go.RowKit
theorem take_eq_succ {xs ys : List ByteArray} {k n : Nat} (hx : xs.length = n) (hy : ys.length = n) (hk : k < n) (h : xs.take k = ys.take k) (he : xs.getD k ByteArray.empty = ys.getD k ByteArray.empty) :
  xs.take (k + 1) = ys.take (k + 1) := by
 rw [List.take_succ_eq_append_getElem (by omega), List.take_succ_eq_append_getElem (by omega), h]
 simp only [List.getD_eq_getElem?_getD, List.getElem?_eq_getElem (show k < xs.length by omega), List.getElem?_eq_getElem (show k < ys.length by omega), Option.getD_some] at he
 rw [he]
theorem ne_of_getD {xs ys : List ByteArray} {k : Nat} (he : xs.getD k ByteArray.empty ≠ ys.getD k ByteArray.empty) : xs ≠ ys := fun h => he (by rw [h])
theorem eqStringS_any (A B : Option Addr) (n m c d lo hi lo' hi' : Nat) (xs ys : List ByteArray) (w : World) (ha : StrR w lo hi A n xs) (hb : StrR w lo' hi' B m ys)
  (hn : n ≤ 4294967296) (hm : m ≤ 4294967296) :
  Calls Tryz.prog 44 #[.slice A n c, .slice B m d] w fun e w' => e = .returned (.bool (decide (xs = ys))) ∧ ∃ q, w' = w.drewN q := by
 by_cases hne : n = m
 ·subst hne
  have hab : ((n : Int) != (n : Int)) = false := by simp
  go_enter Tryz.func44, Tryz.ntmps44
  go_wp2
  go_loopw [5] (fun i wr => ∃ k q : Nat, k ≤ n ∧ i = .int .i64 k ∧ wr = w.drewN q ∧ xs.take k = ys.take k) (fun i _ => n - (intOf i).toNat)
  case atStart => exact ⟨0, 0, Nat.zero_le _, rfl, rfl, rfl⟩
  case round =>
   obtain ⟨k, q, hk, rfl, rfl, ht⟩ := hrel
   have HT := Lib.hid ht; clear ht
   by_cases hlt : k < n
   ·obtain ⟨b, off, rfl, _, _, hc⟩ := ha.at_ hlt
    obtain ⟨b', off', rfl, _, _, hc'⟩ := hb.at_ hlt
    generalize hX : xs.getD k ByteArray.empty = X at *
    generalize hY : ys.getD k ByteArray.empty = Y at *
    have HX := Lib.hid hX; clear hX
    have HY := Lib.hid hY; clear hY
    have hi1 : (k : Int) < (n : Int) := by omega
    go_wp2
    go_quiet (fail)
    go_wp2
    ·have hq : (!X.toList == Y.toList) = true := by assumption
     go_ret
     refine ⟨?_, _, World.drewN_drewN _ _ _⟩
     have hne : X ≠ Y := beq_bytes_false (by simpa using hq)
     have : xs ≠ ys := ne_of_getD (k := k) (by rw [HX.out, HY.out]; exact hne)
     simp [this]
    ·have hq : (!X.toList == Y.toList) = false := by assumption
     have he : X = Y := beq_bytes_true (by simpa using hq)
     go_roundw
     case rel => exact ⟨k + 1, _, by omega, by go_num, rfl, take_eq_succ ha.1 hb.1 hlt HT.out (by rw [HX.out, HY.out]; exact he)⟩
     case measure => simp [intOf]; omega
   ·go_wp2
    go_ret
    obtain rfl : k = n := by omega
    refine ⟨?_, _, rfl⟩
    have hxy : xs = ys := by
     have := HT.out
     rwa [List.take_of_length_le (by rw [ha.1]; omega), List.take_of_length_le (by rw [hb.1]; omega)] at this
    simp [hxy]
 ·have hab : ((n : Int) != (m : Int)) = true := by simp; omega
  go_enter Tryz.func44, Tryz.ntmps44
  go_wp2
  go_ret
  refine ⟨?_, 0, rfl⟩
  have : xs ≠ ys := fun h => hne (by rw [← ha.1, ← hb.1, h])
  simp [this]
theorem eqStringS_b (A B : Option Addr) (n m c d lo hi lo' hi' : Nat) (xs ys : List ByteArray) (w : World) (ha : StrR w lo hi A n xs) (hb : StrR w lo' hi' B m ys)
  (hn : n ≤ 4294967296) (hm : m ≤ 4294967296) :
  Calls Tryz.prog 44 #[.slice A n c, .slice B m d] w fun e w' => e = .returned (.bool (decide (xs = ys))) ∧ Below w.heap.size w w' :=
 (eqStringS_any A B n m c d lo hi lo' hi' xs ys w ha hb hn hm).mono fun _ _ ⟨he, q, hq⟩ => ⟨he, by rw [hq]; exact below_drewN' w q⟩
def digitsOn : Nat → Nat → ByteArray → ByteArray
 | 0, _, out => out
 | f + 1, k, out => if 0 < k then digitsOn f (k / 10) (⟨#[48 + UInt8.ofNat (k % 10)]⟩ ++ out) else out
def markT (k : Nat) : ByteArray := ⟨#[109]⟩ ++ digitsOn k k ByteArray.empty
end Go.Proofs.YtgnmollbnopigaaGreat
/- Walks of the helpers on slices: szStringS, toStringS, szInt64S, toInt64S, eqInt64S. -/
namespace Go.Proofs.YtgnmollbnopigaaGreat
open Go.RowKit
def sizeTo (xs : List ByteArray) (k : Nat) : Nat := ((xs.take k).map ByteArray.size).sum
def sizeAll (xs : List ByteArray) : Nat := (xs.map ByteArray.size).sum
theorem sizeTo_succ {xs : List ByteArray} {k : Nat} (h : k < xs.length) : sizeTo xs (k + 1) = sizeTo xs k + (xs.getD k ByteArray.empty).size := by
 unfold sizeTo
 rw [List.take_succ_eq_append_getElem h, List.map_append, List.sum_append, List.getD_eq_getElem?_getD, List.getElem?_eq_getElem h]
 simp
theorem sizeTo_le (xs : List ByteArray) (k : Nat) : sizeTo xs k ≤ sizeAll xs := by
 unfold sizeTo sizeAll
 have : (xs.map ByteArray.size).sum = ((xs.take k).map ByteArray.size).sum + ((xs.drop k).map ByteArray.size).sum := by
  rw [← List.sum_append, ← List.map_append, List.take_append_drop]
 omega
theorem sizeTo_all (xs : List ByteArray) : sizeTo xs xs.length = sizeAll xs := by unfold sizeTo sizeAll; rw [List.take_length]
def leftStrs (left : Nat) (xs : List ByteArray) : Int := if xs.length + sizeAll xs ≤ left then (left : Int) - (xs.length : Int) - (sizeAll xs : Int) else -1
def leftInts (left : Nat) (n : Nat) : Int := if n ≤ left then (left : Int) - (n : Int) else -1
theorem szStringS_any (A : Option Addr) (n c lo hi left : Nat) (xs : List ByteArray) (w : World) (ha : StrR w lo hi A n xs) (hn : n ≤ 9223372036854775807) (hl : left ≤ 1048576) (hb : ∀ x ∈ xs, x.size ≤ 9223372036854775807) :
  Calls Tryz.prog 36 #[.slice A n c, .int .i64 left] w fun e w' => e = .returned (.int .i64 (leftStrs left xs)) ∧ w' = w := by
 by_cases hfit : n ≤ left
 ·have hd : ¬ ((left : Int) - (n : Int) < 0) := by omega
  go_enter Tryz.func36, Tryz.ntmps36
  go_wp2
  go_loop [1, 5] (fun s i => ∃ k : Nat, k ≤ n ∧ i = .int .i64 k ∧ s = .int .i64 ((left : Int) - (n : Int) - (sizeTo xs k : Int)) ∧ n + sizeTo xs k ≤ left) (fun _ i => n - (intOf i).toNat)
  case atStart => exact ⟨0, Nat.zero_le _, rfl, by simp [sizeTo], by simpa [sizeTo] using hfit⟩
  case round =>
   obtain ⟨k, hk, rfl, rfl, hsum⟩ := hrel
   by_cases hlt : k < n
   ·obtain ⟨b, off, rfl, _, _, hcell⟩ := ha.at_ hlt
    have hs := sizeTo_succ (xs := xs) (k := k) (by rw [ha.1]; exact hlt)
    have hxl : (xs.getD k ByteArray.empty).size ≤ 9223372036854775807 := by
     rw [List.getD_eq_getElem?_getD, List.getElem?_eq_getElem (by rw [ha.1]; exact hlt)]
     exact hb _ (List.getElem_mem _)
    have hle := sizeTo_le xs (k + 1)
    have hlen := ha.1
    generalize hX : xs.getD k ByteArray.empty = X at *
    clear hX
    generalize hs1 : sizeTo xs (k + 1) = s1 at *
    generalize hs0 : sizeTo xs k = s0 at *
    have HS := Lib.hid hs; have HS1 := Lib.hid hs1; clear hs hs1 hs0 hb ha
    have HL := Lib.hid hlen; clear hlen
    by_cases hok : n + s0 + X.size ≤ left
    ·have hd2 : ¬ ((left : Int) - (n : Int) - (s0 : Int) - (X.size : Int) < 0) := by omega
     go_wp2
     go_round
     case rel => exact ⟨k + 1, by omega, by go_num, by rw [HS1.out, HS.out]; congr 1; omega, by rw [HS1.out, HS.out]; omega⟩
     case measure => simp [intOf]; omega
    ·have hd2 : ((left : Int) - (n : Int) - (s0 : Int) - (X.size : Int) < 0) := by omega
     go_wp2
     go_ret
     refine ⟨?_, rfl⟩
     unfold leftStrs
     rw [if_neg (by have := HS.out; have := HL.out; omega)]
     rfl
   ·go_wp2
    go_ret
    obtain rfl : k = n := by omega
    refine ⟨?_, rfl⟩
    have h1 := ha.1
    subst h1
    rw [sizeTo_all] at *
    unfold leftStrs
    rw [if_pos hsum]
    rfl
 ·have hd : ((left : Int) - (n : Int) < 0) := by omega
  go_enter Tryz.func36, Tryz.ntmps36
  go_wp2
  go_ret
  refine ⟨?_, rfl⟩
  unfold leftStrs
  rw [if_neg (by rw [ha.1]; omega)]
  rfl
theorem szInt64S_any (A : Option Addr) (n c left : Nat) (w : World) (hn : n ≤ 9223372036854775807) (hl : left ≤ 1048576) :
  Calls Tryz.prog 111 #[.slice A n c, .int .i64 left] w fun e w' => e = .returned (.int .i64 (leftInts left n)) ∧ w' = w := by
 by_cases hfit : n ≤ left
 ·have hd : ¬ ((left : Int) - (n : Int) < 0) := by omega
  go_enter Tryz.func111, Tryz.ntmps111
  go_wp2
  go_ret
  refine ⟨?_, rfl⟩
  unfold leftInts
  rw [if_pos hfit]
  rfl
 ·have hd : ((left : Int) - (n : Int) < 0) := by omega
  go_enter Tryz.func111, Tryz.ntmps111
  go_wp2
  go_ret
  refine ⟨?_, rfl⟩
  unfold leftInts
  rw [if_neg hfit]
  rfl
def Left (left : Int) (cost : Nat) (n : Int) : Prop := n = -1 ∨ (0 ≤ n ∧ n + (cost : Int) = left)
def costStrs (xs : List ByteArray) : Nat := xs.length + sizeAll xs
def copiedTo {α : Type} (d : α) (k : Nat) (xs : List α) : List α := xs.take k ++ List.replicate (xs.length - k) d
theorem copiedTo_len {α : Type} (d : α) (k : Nat) (xs : List α) (h : k ≤ xs.length) : (copiedTo d k xs).length = xs.length := by simp [copiedTo]; omega
theorem copiedTo_zero {α : Type} (d : α) (xs : List α) : copiedTo d 0 xs = List.replicate xs.length d := by simp [copiedTo]
theorem copiedTo_all {α : Type} (d : α) (xs : List α) : copiedTo d xs.length xs = xs := by simp [copiedTo]
theorem copiedTo_succ {α : Type} (d : α) (k : Nat) (xs : List α) (h : k < xs.length) : (copiedTo d k xs).set k (xs.getD k d) = copiedTo d (k + 1) xs := by
 unfold copiedTo
 have e : xs.length - k = (xs.length - (k + 1)) + 1 := by omega
 rw [List.set_append, if_neg (by simp; omega), List.length_take, Nat.min_eq_left (by omega), Nat.sub_self, e, List.replicate_succ, List.set_cons_zero,
  List.take_succ_eq_append_getElem h, List.append_assoc, List.getD_eq_getElem?_getD, List.getElem?_eq_getElem h]
 rfl
theorem infoString : (Tryz.prog.info? 9).map (fun i => (i.zero, i.size, i.bytes)) = some (some (.string ⟨#[]⟩), 1, 16) := by kernel_rfl
theorem infoInt64 : (Tryz.prog.info? 2).map (fun i => (i.zero, i.size, i.bytes)) = some (some (.int .i64 0), 1, 8) := by kernel_rfl
theorem make_row {P : Program} {α : Type} (enc : α → Value) (d : α) (t e : TypeId) (ht : P.underlying t = some (.slice e)) {by_ : Nat} (hby : by_ ≤ 16) (hone : (enc d).cells = #[enc d])
  (hinfo : (P.info? e).map (fun i => (i.zero, i.size, i.bytes)) = some (some (enc d), 1, by_)) (n : Nat) (hn : n ≤ 1048576) (w : World) :
  (Instr.makeSlice t (.int .i64 (n : Int)) (.int .i64 (n : Int))).run P w = .ok (.slice (some ⟨w.heap.size, 0, none⟩) n n) (w.alloc (.cells (List.replicate n (enc d)).toArray e)) := by
 obtain ⟨i0, hi0, hz0, hz1, hz2⟩ := info_parts hinfo
 have hb : (i0.bytes : Int) * (n : Int) ≤ 281474976710656 := by
  have h : ((i0.bytes * n : Nat) : Int) ≤ 281474976710656 := by
   have := Nat.mul_le_mul (show i0.bytes ≤ 16 by omega) hn
   omega
  rwa [Int.natCast_mul] at h
 have hr := run_make (P := P) w t e i0 (enc d) ht hi0 hz0 .i64 .i64 n n (by omega) (by omega) hb (by omega)
 simp only [Int.toNat_natCast] at hr
 rw [hr, hz1, Nat.mul_one, hone]
 congr 3
 rw [← Array.toList_inj, toList_madeCells_one]
theorem own_made {α : Type} (enc : α → Value) (d : α) (w : World) (e : TypeId) (n : Nat) (hn : n ≤ 1048576) :
  (w.alloc (.cells (List.replicate n (enc d)).toArray e)).ownsRow w.heap.size e 1 (.slice (some ⟨w.heap.size, 0, none⟩) n n) n ((List.replicate n d).map enc) := by
 have := World.ownsRow_lit (base := w.heap.size) (e := e) (size := 1) w (List.replicate n (enc d)).toArray n (Nat.le_refl _) (by unfold maxLen; omega) (by simp)
 simpa using this
theorem toStringS_any (A : Option Addr) (n c lo hi : Nat) (xs : List ByteArray) (w : World) (ha : StrR w lo hi A n xs) (hhi : hi ≤ w.heap.size) (hn : n ≤ 1048576) :
  Calls Tryz.prog 40 #[.slice A n c] w fun e w' => ∃ v, e = .returned v ∧ OwnStrs w' w.heap.size 9 v xs ∧ Below w.heap.size w w' := by
 have hmk := fun W => make_row (P := Tryz.prog) Value.string ByteArray.empty 41 9 Tryz.underlying41 (by omega) rfl infoString n hn W
 have hl := ha.1
 subst hl
 have H0 := Lib.hid (own_made Value.string ByteArray.empty w 9 xs.length hn)
 have HA := Lib.hid ((Below.refl w.heap.size w).alloc (Nat.le_refl _) (.cells (List.replicate xs.length (Value.string ByteArray.empty)).toArray 9))
 go_enter Tryz.func40, Tryz.ntmps40
 go_wp2
 go_loopw [4] (fun i wr => ∃ k : Nat, k ≤ xs.length ∧ i = .int .i64 k ∧ wr.ownsRow w.heap.size 9 1 (.slice (some ⟨w.heap.size, 0, none⟩) xs.length xs.length) xs.length ((copiedTo ByteArray.empty k xs).map Value.string) ∧ Below w.heap.size w wr) (fun i _ => xs.length - (intOf i).toNat)
 case atStart => exact ⟨0, Nat.zero_le _, rfl, by rw [copiedTo_zero]; simpa using H0.out, by simpa using HA.out⟩
 case round =>
  clear hmk
  obtain ⟨k, hk, rfl, hown, hbel⟩ := hrel
  by_cases hlt : k < xs.length
  ·obtain ⟨b, off, rfl, _, hb, hcell⟩ := (ha.below hbel hhi).at_ hlt
   have hc := hown.cellAt k (by omega)
   have hf := hown.frozenAt k
   rw [List.getElem?_map, List.getElem?_eq_getElem (by rw [copiedTo_len _ _ _ hk]; exact hlt)] at hc
   simp only [Option.map_some] at hc
   have hst := hown.stored k (Value.string (xs.getD k ByteArray.empty))
   rw [← List.map_set, copiedTo_succ _ _ _ hlt] at hst
   have hb2 := hbel.grown hst.2 hbel.size (fun g hg => by injection hg with hg; omega)
   have HS := Lib.hid hst.1
   generalize xs.getD k ByteArray.empty = X at *
   clear hst hown H0 HA
   go_wp2
   go_roundw
   case rel => exact ⟨k + 1, by omega, by go_num, HS.out, hb2⟩
   case measure => simp [intOf]; omega
  ·go_wp2
   go_ret
   obtain rfl : k = xs.length := by omega
   rw [copiedTo_all] at hown
   exact ⟨_, rfl, ⟨⟨_, _, rfl⟩, hown⟩, hbel⟩
theorem toInt64S_any (A : Option Addr) (n c lo hi : Nat) (xs : List Int) (w : World) (ha : IntR w lo hi A n xs) (hhi : hi ≤ w.heap.size) (hn : n ≤ 1048576) :
  Calls Tryz.prog 133 #[.slice A n c] w fun e w' => ∃ v, e = .returned v ∧ OwnInts w' w.heap.size 2 v xs ∧ Below w.heap.size w w' := by
 have hmk := fun W => make_row (P := Tryz.prog) (Value.int .i64) (0 : Int) 48 2 Tryz.underlying48 (by omega) rfl infoInt64 n hn W
 have hl := ha.1
 subst hl
 have H0 := Lib.hid (own_made (Value.int .i64) (0 : Int) w 2 xs.length hn)
 have HA := Lib.hid ((Below.refl w.heap.size w).alloc (Nat.le_refl _) (.cells (List.replicate xs.length ((Value.int .i64) (0 : Int))).toArray 2))
 go_enter Tryz.func133, Tryz.ntmps133
 go_wp2
 go_loopw [4] (fun i wr => ∃ k : Nat, k ≤ xs.length ∧ i = .int .i64 k ∧ wr.ownsRow w.heap.size 2 1 (.slice (some ⟨w.heap.size, 0, none⟩) xs.length xs.length) xs.length ((copiedTo (0 : Int) k xs).map (Value.int .i64)) ∧ Below w.heap.size w wr) (fun i _ => xs.length - (intOf i).toNat)
 case atStart => exact ⟨0, Nat.zero_le _, rfl, by rw [copiedTo_zero]; simpa using H0.out, by simpa using HA.out⟩
 case round =>
  clear hmk
  obtain ⟨k, hk, rfl, hown, hbel⟩ := hrel
  by_cases hlt : k < xs.length
  ·obtain ⟨b, off, rfl, _, hb, hcell⟩ := (ha.below hbel hhi).at_ hlt
   have hc := hown.cellAt k (by omega)
   have hf := hown.frozenAt k
   rw [List.getElem?_map, List.getElem?_eq_getElem (by rw [copiedTo_len _ _ _ hk]; exact hlt)] at hc
   simp only [Option.map_some] at hc
   have hst := hown.stored k ((Value.int .i64) (xs.getD k (0 : Int)))
   rw [← List.map_set, copiedTo_succ _ _ _ hlt] at hst
   have hb2 := hbel.grown hst.2 hbel.size (fun g hg => by injection hg with hg; omega)
   have HS := Lib.hid hst.1
   generalize xs.getD k (0 : Int) = X at *
   clear hst hown H0 HA
   go_wp2
   go_roundw
   case rel => exact ⟨k + 1, by omega, by go_num, HS.out, hb2⟩
   case measure => simp [intOf]; omega
  ·go_wp2
   go_ret
   obtain rfl : k = xs.length := by omega
   rw [copiedTo_all] at hown
   exact ⟨_, rfl, ⟨⟨_, _, rfl⟩, hown⟩, hbel⟩
theorem take_eq_succ_int {xs ys : List Int} {k n : Nat} (hx : xs.length = n) (hy : ys.length = n) (hk : k < n) (h : xs.take k = ys.take k) (he : xs.getD k 0 = ys.getD k 0) :
  xs.take (k + 1) = ys.take (k + 1) := by
 rw [List.take_succ_eq_append_getElem (by omega), List.take_succ_eq_append_getElem (by omega), h]
 simp only [List.getD_eq_getElem?_getD, List.getElem?_eq_getElem (show k < xs.length by omega), List.getElem?_eq_getElem (show k < ys.length by omega), Option.getD_some] at he
 rw [he]
theorem eqInt64S_any (A B : Option Addr) (n m c d lo hi lo' hi' : Nat) (xs ys : List Int) (w : World) (ha : IntR w lo hi A n xs) (hb : IntR w lo' hi' B m ys)
  (hn : n ≤ 4294967296) (hm : m ≤ 4294967296) :
  Calls Tryz.prog 166 #[.slice A n c, .slice B m d] w fun e w' => e = .returned (.bool (decide (xs = ys))) ∧ Below w.heap.size w w' := by
 by_cases hne : n = m
 ·subst hne
  have hab : ((n : Int) != (n : Int)) = false := by simp
  go_enter Tryz.func166, Tryz.ntmps166
  go_wp2
  go_loopw [5] (fun i wr => ∃ k q : Nat, k ≤ n ∧ i = .int .i64 k ∧ wr = w.drewN q ∧ xs.take k = ys.take k) (fun i _ => n - (intOf i).toNat)
  case atStart => exact ⟨0, 0, Nat.zero_le _, rfl, rfl, rfl⟩
  case round =>
   obtain ⟨k, q, hk, rfl, rfl, ht⟩ := hrel
   have HT := Lib.hid ht; clear ht
   by_cases hlt : k < n
   ·obtain ⟨b, off, rfl, _, _, hc⟩ := ha.at_ hlt
    obtain ⟨b', off', rfl, _, _, hc'⟩ := hb.at_ hlt
    generalize hX : xs.getD k 0 = X at *
    generalize hY : ys.getD k 0 = Y at *
    have HX := Lib.hid hX; clear hX
    have HY := Lib.hid hY; clear hY
    have hi1 : (k : Int) < (n : Int) := by omega
    by_cases hxy : X = Y
    ·have hq : (X != Y) = false := by simp [hxy]
     have HQ := Lib.hid hxy; clear hxy
     go_wp2
     go_quiet (fail)
     go_wp2
     go_roundw
     case rel => exact ⟨k + 1, _, by omega, by go_num, rfl, take_eq_succ_int ha.1 hb.1 hlt HT.out (by rw [HX.out, HY.out]; exact HQ.out)⟩
     case measure => simp [intOf]; omega
    ·have hq : (X != Y) = true := by simp [hxy]
     go_wp2
     go_quiet (fail)
     go_wp2
     go_ret
     refine ⟨?_, by rw [World.drewN_drewN]; exact below_drewN' w _⟩
     have : xs ≠ ys := fun h => hxy (by rw [← HX.out, ← HY.out, h])
     simp [this]
   ·go_wp2
    go_ret
    obtain rfl : k = n := by omega
    refine ⟨?_, below_drewN' w _⟩
    have hxy : xs = ys := by
     have := HT.out
     rwa [List.take_of_length_le (by rw [ha.1]; omega), List.take_of_length_le (by rw [hb.1]; omega)] at this
    simp [hxy]
 ·have hab : ((n : Int) != (m : Int)) = true := by simp; omega
  go_enter Tryz.func166, Tryz.ntmps166
  go_wp2
  go_ret
  refine ⟨?_, Below.refl _ _⟩
  have : xs ≠ ys := fun h => hne (by rw [← ha.1, ← hb.1, h])
  simp [this]
end Go.Proofs.YtgnmollbnopigaaGreat
/- From the walk of a law to its row: a law that returns true and leaves what was there as it was. -/
namespace Go.Proofs.YtgnmollbnopigaaGreat
open Go.ChangeShapes Go.WideShapes Go.ChangeAt Go.RowKit
theorem own_knob : ownKnob Tryz.prog.godebug = none := by kernel_rfl
theorem laid_out : laidOutB Tryz.prog = true := by kernel_rfl
theorem trodAll_below {H : Type} {enc : TypeId × Value → H} {P : Program} (hl : laidOutB P = true) {W W' : World} (hb : Below W.heap.size W W') :
  ∀ (ts : List TypeId) (vs : List Value) (ds : List (DataW H)) (ps : List MemPlace), (∀ t ∈ ts, P.readableRec t = true ∧ t < P.types.size) → (∀ x ∈ ps, x.block < W.heap.size) →
  DataW.TrodAll enc P W 0 (fun _ => true) true ts vs ds ps → DataW.TrodAll enc P W' 0 (fun b => decide (b < W.heap.size)) true ts vs ds ps
 | [], [], [], _, _, _, h => h
 | t :: ts, v :: vs, d :: ds, ps, hr, hlt, h => by
  obtain ⟨p, q, h1, h2, rfl⟩ := h
  exact ⟨p, q, Below.trod hl (hr t (by simp)).1 (hr t (by simp)).2 h1 hb (fun x hx => hlt x (by simp [hx])),
   trodAll_below hl hb ts vs ds q (fun t ht => hr t (by simp [ht])) (fun x hx => hlt x (by simp [hx])) h2, rfl⟩
 | [], [], _ :: _, _, _, _, h => h.elim
 | [], _ :: _, _, _, _, _, h => h.elim
 | _ :: _, [], _, _, _, _, h => h.elim
 | _ :: _, _ :: _, [], _, _, _, h => h.elim
theorem law_post {H : Type} {enc : TypeId × Value → H} {P : Program} {f : Func} {s : ChangeSpec} {W W' : World} {args : Array Value} {ds gs : List (DataW H)} {before : List MemPlace} {tb : TypeId}
  (hvars : s.vars = []) (hW : DataW.Whole enc P f.params.toList s.vars false W args.toList ds gs before)
  (hfn : s.fn H (ds ++ gs) = { results := [.lit (.bool true)], args := ds }) (hl : laidOutB P = true) (hr : ∀ t ∈ f.params.toList, P.readableRec t = true ∧ t < P.types.size)
  (hrt : f.resultTypes = #[tb]) (htb : P.underlying tb = some .bool) (hb : Below W.heap.size W W') :
  s.post enc P f false true false false W args (.bool true) W' := by
 have hW' := hW
 have hlt : ∀ p ∈ before, p.block < W.heap.size := fun p hp => hW.lt p hp
 obtain ⟨p, q, hA, hV, rfl, hfz, hnd⟩ := hW
 rw [hvars] at hV
 obtain ⟨rfl, rfl⟩ := trodVars_none hV
 refine ⟨ds, [], p ++ [], [], p, [], hW', ?_, ?_, ?_, hb.frame _, fun h => by cases h⟩
 ·rw [hfn, hrt]
  exact trodAll_cons_mk (shut_bool htb _) trodAll_mk0
 ·rw [hfn]
  exact trodAll_below hl hb _ _ _ _ hr (fun x hx => hlt x (by simp [hx])) hA
 ·rw [hfn, hvars]; rfl
end Go.Proofs.YtgnmollbnopigaaGreat
/- From the row's reading of an argument to the words of Mem: texts, lists of texts, lists of numbers, structs. -/
namespace Go.Proofs.YtgnmollbnopigaaGreat
open Go.ChangeShapes Go.WideShapes Go.ChangeAt Go.RowKit
theorem block_of_cell {w : World} {a : Addr} {v : Value} (h : w.cell? a = some v) : a.block < w.heap.size ∧ a.spot = none := by
 unfold World.cell? at h
 split at h
 ·rename_i c t f heq
  constructor
  ·rcases Nat.lt_or_ge a.block w.heap.size with hlt | hge
   ·exact hlt
   ·rw [Array.getElem?_eq_none hge] at heq; cases heq
  ·split at h
   ·cases h
   ·rename_i hs; simpa using hs
 ·cases h
section
variable {H : Type} {enc : TypeId × Value → H} {P : Program} {w : World} {base : Nat} {held : Bool}
theorem open_str {t : TypeId} {fuel : Nat} {cs : List Value} {x : DataW H × List MemPlace} (ht : P.underlying t = some .string) (h : DataW.trod enc P w base (fun _ => true) held fuel t cs = some x) :
  ∃ s : ByteArray, cs = [.string s] ∧ s.size ≤ 9223372036854775807 := by
 obtain ⟨s, h1, _, h2⟩ := DataW.trod_string ht h
 exact ⟨s, h1, by unfold maxLen at h2; exact h2⟩
theorem open_i64 {t : TypeId} {fuel : Nat} {cs : List Value} {x : DataW H × List MemPlace} (ht : P.underlying t = some (.int .i64)) (h : DataW.trod enc P w base (fun _ => true) held fuel t cs = some x) :
  ∃ n : Int, cs = [.int .i64 n] ∧ -9223372036854775808 ≤ n ∧ n ≤ 9223372036854775807 := by
 obtain ⟨n, h1, _, h2⟩ := DataW.trod_int ht h
 refine ⟨n, h1, ?_⟩
 simp [Lit.wf, IntKind.min, IntKind.max, IntKind.signed, IntKind.bits] at h2
 exact ⟨by omega, by omega⟩
end
end Go.Proofs.YtgnmollbnopigaaGreat
/- A field of a struct that came in; how many cells the plain types have. -/
namespace Go.Proofs.YtgnmollbnopigaaGreat
open Go.ChangeShapes Go.WideShapes Go.ChangeAt Go.RowKit
theorem field_of {H : Type} {enc : TypeId × Value → H} {P : Program} {w : World} {base : Nat} {spare : Nat → Bool} {held : Bool} {n : Nat} {cs : List Value} {xs : List (DataW H × List MemPlace)} {fs : Array Field} {l : List (TypeId × Nat)}
  (hl : fs.toList.map (fun f => (f.type, f.offset)) = l) (hx : xs.length = fs.size)
  (hg : ∀ (i : Nat) (f : Field), fs[i]? = some f → DataW.trod enc P w base spare held n f.type ((cs.drop f.offset).take (P.cellsOf f.type)) = xs[i]?) (i : Nat) (t : TypeId) (o : Nat) (hi : l[i]? = some (t, o)) :
  ∃ y, DataW.trod enc P w base spare held n t ((cs.drop o).take (P.cellsOf t)) = some y := by
 rw [← hl, List.getElem?_map] at hi
 cases hf : fs.toList[i]? with
 | none => rw [hf] at hi; cases hi
 | some f =>
  rw [hf] at hi
  simp only [Option.map_some, Option.some.injEq, Prod.mk.injEq] at hi
  obtain ⟨rfl, rfl⟩ := hi
  have hf' : fs[i]? = some f := by rw [← hf, Array.getElem?_toList]
  have := hg i f hf'
  have hlt : i < xs.length := by
   rw [hx]
   rcases Nat.lt_or_ge i fs.size with h | h
   ·exact h
   ·rw [Array.getElem?_eq_none h] at hf'; cases hf'
  exact ⟨_, this.trans (List.getElem?_eq_getElem hlt)⟩
end Go.Proofs.YtgnmollbnopigaaGreat
