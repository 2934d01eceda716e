/- Walks of the helpers on slices of strings: eqStringS, markText, markStringS, heldStringS. -/
import Derived.Test.YtnnabkldceklmaaGreatDoorProg
import Derived.Test.YtnnabkldceklmaaGreatDoorJoinBTAa
set_option maxHeartbeats 16000000
set_option maxRecDepth 100000
namespace Go.Proofs.YtnnabkldceklmaaGreatDoor
open Go.RowKit
theorem take_eq_succ {xs ys : List ByteArray} {k n : Nat} (hx : xs.length = n) (hy : ys.length = n) (hk : k < n) (h : xs.take k = ys.take k) (he : xs.getD k ByteArray.empty = ys.getD k ByteArray.empty) :
  xs.take (k + 1) = ys.take (k + 1) := by
 rw [List.take_succ_eq_append_getElem (by omega), List.take_succ_eq_append_getElem (by omega), h]
 simp only [List.getD_eq_getElem?_getD, List.getElem?_eq_getElem (show k < xs.length by omega), List.getElem?_eq_getElem (show k < ys.length by omega), Option.getD_some] at he
 rw [he]
theorem ne_of_getD {xs ys : List ByteArray} {k : Nat} (he : xs.getD k ByteArray.empty ≠ ys.getD k ByteArray.empty) : xs ≠ ys := fun h => he (by rw [h])
theorem eqStringS_any (A B : Option Addr) (n m c d lo hi lo' hi' : Nat) (xs ys : List ByteArray) (w : World) (ha : StrR w lo hi A n xs) (hb : StrR w lo' hi' B m ys)
  (hn : n ≤ 4294967296) (hm : m ≤ 4294967296) :
  Calls Tryz.prog 128 #[.slice A n c, .slice B m d] w fun e w' => e = .returned (.bool (decide (xs = ys))) ∧ ∃ q, w' = w.drewN q := by
 by_cases hne : n = m
 ·subst hne
  have hab : ((n : Int) != (n : Int)) = false := by simp
  go_enter Tryz.func128, Tryz.ntmps128
  go_wp2
  go_loopw [5] (fun i wr => ∃ k q : Nat, k ≤ n ∧ i = .int .i64 k ∧ wr = w.drewN q ∧ xs.take k = ys.take k) (fun i _ => n - (intOf i).toNat)
  case atStart => exact ⟨0, 0, Nat.zero_le _, rfl, rfl, rfl⟩
  case round =>
   obtain ⟨k, q, hk, rfl, rfl, ht⟩ := hrel
   have HT := hd_ ht; clear ht
   by_cases hlt : k < n
   ·obtain ⟨b, off, rfl, _, _, hc⟩ := ha.at_ hlt
    obtain ⟨b', off', rfl, _, _, hc'⟩ := hb.at_ hlt
    generalize hX : xs.getD k ByteArray.empty = X at *
    generalize hY : ys.getD k ByteArray.empty = Y at *
    have HX := hd_ hX; clear hX
    have HY := hd_ hY; clear hY
    have hi1 : (k : Int) < (n : Int) := by omega
    go_wp2
    go_quiet (fail)
    go_wp2
    ·have hq : (!X.toList == Y.toList) = true := by assumption
     go_ret
     refine ⟨?_, _, World.drewN_drewN _ _ _⟩
     have hne : X ≠ Y := beq_bytes_false (by simpa using hq)
     have : xs ≠ ys := ne_of_getD (k := k) (by rw [HX.out, HY.out]; exact hne)
     simp [this]
    ·have hq : (!X.toList == Y.toList) = false := by assumption
     have he : X = Y := beq_bytes_true (by simpa using hq)
     go_roundw
     case rel => exact ⟨k + 1, _, by omega, by go_num, rfl, take_eq_succ ha.1 hb.1 hlt HT.out (by rw [HX.out, HY.out]; exact he)⟩
     case measure => simp [intOf]; omega
   ·go_wp2
    go_ret
    obtain rfl : k = n := by omega
    refine ⟨?_, _, rfl⟩
    have hxy : xs = ys := by
     have := HT.out
     rwa [List.take_of_length_le (by rw [ha.1]; omega), List.take_of_length_le (by rw [hb.1]; omega)] at this
    simp [hxy]
 ·have hab : ((n : Int) != (m : Int)) = true := by simp; omega
  go_enter Tryz.func128, Tryz.ntmps128
  go_wp2
  go_ret
  refine ⟨?_, 0, rfl⟩
  have : xs ≠ ys := fun h => hne (by rw [← ha.1, ← hb.1, h])
  simp [this]
theorem eqStringS_b (A B : Option Addr) (n m c d lo hi lo' hi' : Nat) (xs ys : List ByteArray) (w : World) (ha : StrR w lo hi A n xs) (hb : StrR w lo' hi' B m ys)
  (hn : n ≤ 4294967296) (hm : m ≤ 4294967296) :
  Calls Tryz.prog 128 #[.slice A n c, .slice B m d] w fun e w' => e = .returned (.bool (decide (xs = ys))) ∧ Below w.heap.size w w' :=
 (eqStringS_any A B n m c d lo hi lo' hi' xs ys w ha hb hn hm).mono fun _ _ ⟨he, q, hq⟩ => ⟨he, by rw [hq]; exact below_drewN' w q⟩
def digitsOn : Nat → Nat → ByteArray → ByteArray
 | 0, _, out => out
 | f + 1, k, out => if 0 < k then digitsOn f (k / 10) (⟨#[48 + UInt8.ofNat (k % 10)]⟩ ++ out) else out
def markT (k : Nat) : ByteArray := ⟨#[109]⟩ ++ digitsOn k k ByteArray.empty
theorem digits_step {f j k : Nat} {out : ByteArray} (hj : 0 < j) (hf : j ≤ f) (h : digitsOn f j out = digitsOn k k ByteArray.empty) :
  ∃ g, f = g + 1 ∧ digitsOn g (j / 10) (⟨#[48 + UInt8.ofNat (j % 10)]⟩ ++ out) = digitsOn k k ByteArray.empty := by
 obtain ⟨g, rfl⟩ : ∃ g, f = g + 1 := ⟨f - 1, by omega⟩
 refine ⟨g, rfl, ?_⟩
 rw [← h]
 conv => rhs; unfold digitsOn
 rw [if_pos hj]
theorem digits_end {f k : Nat} {out : ByteArray} (h : digitsOn f 0 out = digitsOn k k ByteArray.empty) : out = digitsOn k k ByteArray.empty := by
 rw [← h]
 cases f <;> simp [digitsOn]
theorem markText_any (k : Nat) (w : World) (h1 : 1 ≤ k) (h2 : k ≤ 4294967296) :
  Calls Tryz.prog 184 #[.int .i64 k] w fun e w' => e = .returned (.string (markT k)) ∧ Below w.heap.size w w' := by
 have hk0 : decide (k = 0) = false := by simp; omega
 have hcv := run_one_byte (P := Tryz.prog) 182 9 5 Tryz.underlying182 Tryz.underlying5 Tryz.underlying9
 go_enter Tryz.func184, Tryz.ntmps184
 go_wp2
 go_loopw [0, 3] (fun i s wr => ∃ (j f : Nat) (out : ByteArray), i = .int .i64 j ∧ s = .string out ∧ j ≤ f ∧ j ≤ k ∧ out.size + f ≤ k ∧ Hid (digitsOn f j out = digitsOn k k ByteArray.empty) ∧ Below w.heap.size w wr) (fun i _ _ => (intOf i).toNat)
 case atStart => exact ⟨k, k, ByteArray.empty, rfl, rfl, Nat.le_refl _, Nat.le_refl _, by simp, rfl, Below.refl _ _⟩
 case round =>
  obtain ⟨j, f, out, rfl, rfl, hjf, hjk, hsz, hd, hbel⟩ := hrel
  by_cases hj : 0 < j
  ·go_wp2
   go_roundw
   case rel =>
    obtain ⟨g, rfl, hg⟩ := digits_step hj hjf hd.out
    exact ⟨j / 10, g, _, by go_num, rfl, by omega, by omega, by rw [ByteArray.size_append]; show 1 + out.size + g ≤ k; omega, hg, hbel.alloc hbel.size _⟩
   case measure => simp [intOf]; omega
  ·go_wp2
   go_ret
   obtain rfl : j = 0 := by omega
   exact ⟨by rw [digits_end hd.out]; rfl, hbel⟩
theorem markText_int (a : Int) (w : World) (h1 : 1 ≤ a) (h2 : a ≤ 4294967296) :
  Calls Tryz.prog 184 #[.int .i64 a] w fun e w' => e = .returned (.string (markT a.toNat)) ∧ Below w.heap.size w w' := by
 obtain ⟨k, rfl⟩ := Int.eq_ofNat_of_zero_le (show 0 ≤ a by omega)
 exact markText_any k w (by omega) (by omega)
def marksFrom (k n : Nat) : List ByteArray := (List.range n).map fun i => markT (k + i)
def markedTo (k j : Nat) (xs : List ByteArray) : List ByteArray := marksFrom k j ++ xs.drop j
theorem marksFrom_len (k n : Nat) : (marksFrom k n).length = n := by simp [marksFrom]
theorem markedTo_zero (k : Nat) (xs : List ByteArray) : markedTo k 0 xs = xs := by simp [markedTo, marksFrom]
theorem markedTo_all (k n : Nat) (xs : List ByteArray) (h : xs.length = n) : markedTo k n xs = marksFrom k n := by simp [markedTo, ← h]
theorem markedTo_succ (k j : Nat) (xs : List ByteArray) (h : j < xs.length) : (markedTo k j xs).set j (markT (k + j)) = markedTo k (j + 1) xs := by
 unfold markedTo
 rw [List.set_append, if_neg (by rw [marksFrom_len]; omega), marksFrom_len, Nat.sub_self, List.drop_eq_getElem_cons h, List.set_cons_zero]
 simp [marksFrom, List.range_succ]
theorem markStringS_any (base : Nat) (A : Option Addr) (n c k : Nat) (xs : List ByteArray) (w : World) (h : w.ownsRow base 9 1 (.slice A n c) n (xs.map Value.string))
  (h1 : 1 ≤ k) (h2 : k + n ≤ 4294967296) :
  Calls Tryz.prog 132 #[.slice A n c, .int .i64 k] w fun e w' => e = .returned (.int .i64 (k + n : Nat)) ∧
   w'.ownsRow base 9 1 (.slice A n c) n ((marksFrom k n).map Value.string) ∧ w.grownBy w' (Value.slice A n c).ownBlock := by
 have hl : xs.length = n := by have := h.1; simpa using this
 go_enter Tryz.func132, Tryz.ntmps132
 go_wp2
 go_loopw [1, 5] (fun s i wr => ∃ j : Nat, j ≤ n ∧ i = .int .i64 j ∧ s = .int .i64 (k + j : Nat) ∧ wr.ownsRow base 9 1 (.slice A n c) n ((markedTo k j xs).map Value.string) ∧ w.grownBy wr (Value.slice A n c).ownBlock) (fun _ i _ => n - (intOf i).toNat)
 case atStart => exact ⟨0, Nat.zero_le _, rfl, rfl, by rw [markedTo_zero]; exact h, World.grownBy.refl _ _⟩
 case round =>
  obtain ⟨j, hj, rfl, rfl, hown, hgr⟩ := hrel
  by_cases hlt : j < n
  ·obtain ⟨g, rfl, hbg, hglt⟩ := own_head hown (by omega)
   go_wp2_with fail
   refine (markText_int _ _ (by omega) (by omega)).mono ?_
   rintro e w1 ⟨rfl, hb⟩
   have hown1 := own_below hown hb
   have hc := hown1.cellAt j (by omega)
   have hf := hown1.frozenAt j
   rw [List.getElem?_map, List.getElem?_eq_getElem (by simp [markedTo, marksFrom_len]; omega)] at hc
   simp only [Option.map_some] at hc
   rw [show ((k : Int) + (j : Int)).toNat = k + j by omega]
   have hst := hown1.stored j (.string (markT (k + j)))
   have hgr1 := grown_trans_below hgr hb
   clear hown1 hown hgr hb h
   go_wp2
   go_roundw
   case rel =>
    refine ⟨j + 1, by omega, by go_num, by go_num, ?_, grown_trans' hgr1 hst.2⟩
    rw [← markedTo_succ k j xs (by omega), List.map_set]
    exact hst.1
   case measure => simp [intOf]; omega
  ·go_wp2
   go_ret
   obtain rfl : j = n := by omega
   exact ⟨rfl, by rw [markedTo_all k j xs hl] at hown; exact hown, hgr⟩
theorem heldStringS_any (A : Option Addr) (n c k lo hi : Nat) (w : World) (h : StrR w lo hi A n (marksFrom k n)) (hhi : hi ≤ w.heap.size)
  (h1 : 1 ≤ k) (h2 : k + n ≤ 4294967296) :
  Calls Tryz.prog 134 #[.slice A n c, .int .i64 k] w fun e w' => e = .returned (.int .i64 (k + n : Nat)) ∧ Below w.heap.size w w' := by
 go_enter Tryz.func134, Tryz.ntmps134
 go_wp2
 go_loopw [1, 5] (fun s i wr => ∃ j : Nat, j ≤ n ∧ i = .int .i64 j ∧ s = .int .i64 (k + j : Nat) ∧ Below w.heap.size w wr) (fun _ i _ => n - (intOf i).toNat)
 case atStart => exact ⟨0, Nat.zero_le _, rfl, rfl, Below.refl _ _⟩
 case round =>
  obtain ⟨j, hj, rfl, rfl, hbel⟩ := hrel
  by_cases hlt : j < n
  ·obtain ⟨b, off, rfl, _, hblt, hc⟩ := (h.below hbel hhi).at_ hlt
   have hg : (marksFrom k n).getD j ByteArray.empty = markT (k + j) := by simp [marksFrom, List.getD_eq_getElem?_getD, hlt]
   rw [hg] at hc
   clear hg
   have hi1 : (j : Int) < (n : Int) := by omega
   have hbw : b < w.heap.size := by omega
   have hts : ((k : Int) + (j : Int)).toNat = k + j := by omega
   have hbd := hbel.drew
   go_wp2_with fail
   go_region_held3 (fun w' => w'.cell? ⟨b, off + j, none⟩ = some (.string (markT (k + j))) ∧ Below w.heap.size w w') (first | exact ⟨hc, hbel⟩ | exact ⟨hc, hbd⟩ | exact keep_cell hbw hb (by assumption) (by assumption))
    (first | (go_at_call 184; refine (markText_int _ _ (by omega) (by omega)).mono ?_; rintro e w1 ⟨rfl, hb⟩))
   have hb2 : Below w.heap.size w w1 := hbd.trans (hb.mono hbd.size)
   clear hb hbd hbel
   go_wp2
   go_roundw
   case rel => exact ⟨j + 1, by omega, by go_num, by go_num, hb2⟩
   case measure => simp [intOf]; omega
  ·go_wp2
   go_ret
   obtain rfl : j = n := by omega
   exact ⟨rfl, hbel⟩
end Go.Proofs.YtnnabkldceklmaaGreatDoor
/- Walks of the helpers on slices: szStringS, toStringS, szInt64S, toInt64S, eqInt64S. -/
namespace Go.Proofs.YtnnabkldceklmaaGreatDoor
open Go.RowKit
def sizeTo (xs : List ByteArray) (k : Nat) : Nat := ((xs.take k).map ByteArray.size).sum
def sizeAll (xs : List ByteArray) : Nat := (xs.map ByteArray.size).sum
theorem sizeTo_succ {xs : List ByteArray} {k : Nat} (h : k < xs.length) : sizeTo xs (k + 1) = sizeTo xs k + (xs.getD k ByteArray.empty).size := by
 unfold sizeTo
 rw [List.take_succ_eq_append_getElem h, List.map_append, List.sum_append, List.getD_eq_getElem?_getD, List.getElem?_eq_getElem h]
 simp
theorem sizeTo_le (xs : List ByteArray) (k : Nat) : sizeTo xs k ≤ sizeAll xs := by
 unfold sizeTo sizeAll
 have : (xs.map ByteArray.size).sum = ((xs.take k).map ByteArray.size).sum + ((xs.drop k).map ByteArray.size).sum := by
  rw [← List.sum_append, ← List.map_append, List.take_append_drop]
 omega
theorem sizeTo_all (xs : List ByteArray) : sizeTo xs xs.length = sizeAll xs := by unfold sizeTo sizeAll; rw [List.take_length]
def leftStrs (left : Nat) (xs : List ByteArray) : Int := if xs.length + sizeAll xs ≤ left then (left : Int) - (xs.length : Int) - (sizeAll xs : Int) else -1
def leftInts (left : Nat) (n : Nat) : Int := if n ≤ left then (left : Int) - (n : Int) else -1
theorem szStringS_any (A : Option Addr) (n c lo hi left : Nat) (xs : List ByteArray) (w : World) (ha : StrR w lo hi A n xs) (hn : n ≤ 9223372036854775807) (hl : left ≤ 1048576) (hb : ∀ x ∈ xs, x.size ≤ 9223372036854775807) :
  Calls Tryz.prog 86 #[.slice A n c, .int .i64 left] w fun e w' => e = .returned (.int .i64 (leftStrs left xs)) ∧ w' = w := by
 by_cases hfit : n ≤ left
 ·have hd : ¬ ((left : Int) - (n : Int) < 0) := by omega
  go_enter Tryz.func86, Tryz.ntmps86
  go_wp2
  go_loop [1, 5] (fun s i => ∃ k : Nat, k ≤ n ∧ i = .int .i64 k ∧ s = .int .i64 ((left : Int) - (n : Int) - (sizeTo xs k : Int)) ∧ n + sizeTo xs k ≤ left) (fun _ i => n - (intOf i).toNat)
  case atStart => exact ⟨0, Nat.zero_le _, rfl, by simp [sizeTo], by simpa [sizeTo] using hfit⟩
  case round =>
   obtain ⟨k, hk, rfl, rfl, hsum⟩ := hrel
   by_cases hlt : k < n
   ·obtain ⟨b, off, rfl, _, _, hcell⟩ := ha.at_ hlt
    have hs := sizeTo_succ (xs := xs) (k := k) (by rw [ha.1]; exact hlt)
    have hxl : (xs.getD k ByteArray.empty).size ≤ 9223372036854775807 := by
     rw [List.getD_eq_getElem?_getD, List.getElem?_eq_getElem (by rw [ha.1]; exact hlt)]
     exact hb _ (List.getElem_mem _)
    have hle := sizeTo_le xs (k + 1)
    have hlen := ha.1
    generalize hX : xs.getD k ByteArray.empty = X at *
    clear hX
    generalize hs1 : sizeTo xs (k + 1) = s1 at *
    generalize hs0 : sizeTo xs k = s0 at *
    have HS := hd_ hs; have HS1 := hd_ hs1; clear hs hs1 hs0 hb ha
    have HL := hd_ hlen; clear hlen
    by_cases hok : n + s0 + X.size ≤ left
    ·have hd2 : ¬ ((left : Int) - (n : Int) - (s0 : Int) - (X.size : Int) < 0) := by omega
     go_wp2
     go_round
     case rel => exact ⟨k + 1, by omega, by go_num, by rw [HS1.out, HS.out]; congr 1; omega, by rw [HS1.out, HS.out]; omega⟩
     case measure => simp [intOf]; omega
    ·have hd2 : ((left : Int) - (n : Int) - (s0 : Int) - (X.size : Int) < 0) := by omega
     go_wp2
     go_ret
     refine ⟨?_, rfl⟩
     unfold leftStrs
     rw [if_neg (by have := HS.out; have := HL.out; omega)]
     rfl
   ·go_wp2
    go_ret
    obtain rfl : k = n := by omega
    refine ⟨?_, rfl⟩
    have h1 := ha.1
    subst h1
    rw [sizeTo_all] at *
    unfold leftStrs
    rw [if_pos hsum]
    rfl
 ·have hd : ((left : Int) - (n : Int) < 0) := by omega
  go_enter Tryz.func86, Tryz.ntmps86
  go_wp2
  go_ret
  refine ⟨?_, rfl⟩
  unfold leftStrs
  rw [if_neg (by rw [ha.1]; omega)]
  rfl
theorem szInt64S_any (A : Option Addr) (n c left : Nat) (w : World) (hn : n ≤ 9223372036854775807) (hl : left ≤ 1048576) :
  Calls Tryz.prog 35 #[.slice A n c, .int .i64 left] w fun e w' => e = .returned (.int .i64 (leftInts left n)) ∧ w' = w := by
 by_cases hfit : n ≤ left
 ·have hd : ¬ ((left : Int) - (n : Int) < 0) := by omega
  go_enter Tryz.func35, Tryz.ntmps35
  go_wp2
  go_ret
  refine ⟨?_, rfl⟩
  unfold leftInts
  rw [if_pos hfit]
  rfl
 ·have hd : ((left : Int) - (n : Int) < 0) := by omega
  go_enter Tryz.func35, Tryz.ntmps35
  go_wp2
  go_ret
  refine ⟨?_, rfl⟩
  unfold leftInts
  rw [if_neg hfit]
  rfl
def Left (left : Int) (cost : Nat) (n : Int) : Prop := n = -1 ∨ (0 ≤ n ∧ n + (cost : Int) = left)
def costStrs (xs : List ByteArray) : Nat := xs.length + sizeAll xs
def copiedTo {α : Type} (d : α) (k : Nat) (xs : List α) : List α := xs.take k ++ List.replicate (xs.length - k) d
theorem copiedTo_len {α : Type} (d : α) (k : Nat) (xs : List α) (h : k ≤ xs.length) : (copiedTo d k xs).length = xs.length := by simp [copiedTo]; omega
theorem copiedTo_zero {α : Type} (d : α) (xs : List α) : copiedTo d 0 xs = List.replicate xs.length d := by simp [copiedTo]
theorem copiedTo_all {α : Type} (d : α) (xs : List α) : copiedTo d xs.length xs = xs := by simp [copiedTo]
theorem copiedTo_succ {α : Type} (d : α) (k : Nat) (xs : List α) (h : k < xs.length) : (copiedTo d k xs).set k (xs.getD k d) = copiedTo d (k + 1) xs := by
 unfold copiedTo
 have e : xs.length - k = (xs.length - (k + 1)) + 1 := by omega
 rw [List.set_append, if_neg (by simp; omega), List.length_take, Nat.min_eq_left (by omega), Nat.sub_self, e, List.replicate_succ, List.set_cons_zero,
  List.take_succ_eq_append_getElem h, List.append_assoc, List.getD_eq_getElem?_getD, List.getElem?_eq_getElem h]
 rfl
theorem infoString : (Tryz.prog.info? 9).map (fun i => (i.zero, i.size, i.bytes)) = some (some (.string ⟨#[]⟩), 1, 16) := by kernel_rfl
theorem infoInt64 : (Tryz.prog.info? 2).map (fun i => (i.zero, i.size, i.bytes)) = some (some (.int .i64 0), 1, 8) := by kernel_rfl
theorem make_row {P : Program} {α : Type} (enc : α → Value) (d : α) (t e : TypeId) (ht : P.underlying t = some (.slice e)) {by_ : Nat} (hby : by_ ≤ 16) (hone : (enc d).cells = #[enc d])
  (hinfo : (P.info? e).map (fun i => (i.zero, i.size, i.bytes)) = some (some (enc d), 1, by_)) (n : Nat) (hn : n ≤ 1048576) (w : World) :
  (Instr.makeSlice t (.int .i64 (n : Int)) (.int .i64 (n : Int))).run P w = .ok (.slice (some ⟨w.heap.size, 0, none⟩) n n) (w.alloc (.cells (List.replicate n (enc d)).toArray e)) := by
 obtain ⟨i0, hi0, hz0, hz1, hz2⟩ := info_parts hinfo
 have hb : (i0.bytes : Int) * (n : Int) ≤ 281474976710656 := by
  have h : ((i0.bytes * n : Nat) : Int) ≤ 281474976710656 := by
   have := Nat.mul_le_mul (show i0.bytes ≤ 16 by omega) hn
   omega
  rwa [Int.natCast_mul] at h
 have hr := run_make (P := P) w t e i0 (enc d) ht hi0 hz0 .i64 .i64 n n (by omega) (by omega) hb (by omega)
 simp only [Int.toNat_natCast] at hr
 rw [hr, hz1, Nat.mul_one, hone]
 congr 3
 rw [← Array.toList_inj, toList_madeCells_one]
theorem own_made {α : Type} (enc : α → Value) (d : α) (w : World) (e : TypeId) (n : Nat) (hn : n ≤ 1048576) :
  (w.alloc (.cells (List.replicate n (enc d)).toArray e)).ownsRow w.heap.size e 1 (.slice (some ⟨w.heap.size, 0, none⟩) n n) n ((List.replicate n d).map enc) := by
 have := World.ownsRow_lit (base := w.heap.size) (e := e) (size := 1) w (List.replicate n (enc d)).toArray n (Nat.le_refl _) (by unfold maxLen; omega) (by simp)
 simpa using this
theorem toStringS_any (A : Option Addr) (n c lo hi : Nat) (xs : List ByteArray) (w : World) (ha : StrR w lo hi A n xs) (hhi : hi ≤ w.heap.size) (hn : n ≤ 1048576) :
  Calls Tryz.prog 103 #[.slice A n c] w fun e w' => ∃ v, e = .returned v ∧ OwnStrs w' w.heap.size 9 v xs ∧ Below w.heap.size w w' := by
 have hmk := fun W => make_row (P := Tryz.prog) Value.string ByteArray.empty 22 9 Tryz.underlying22 (by omega) rfl infoString n hn W
 have hl := ha.1
 subst hl
 have H0 := hd_ (own_made Value.string ByteArray.empty w 9 xs.length hn)
 have HA := hd_ ((Below.refl w.heap.size w).alloc (Nat.le_refl _) (.cells (List.replicate xs.length (Value.string ByteArray.empty)).toArray 9))
 go_enter Tryz.func103, Tryz.ntmps103
 go_wp2
 go_loopw [4] (fun i wr => ∃ k : Nat, k ≤ xs.length ∧ i = .int .i64 k ∧ wr.ownsRow w.heap.size 9 1 (.slice (some ⟨w.heap.size, 0, none⟩) xs.length xs.length) xs.length ((copiedTo ByteArray.empty k xs).map Value.string) ∧ Below w.heap.size w wr) (fun i _ => xs.length - (intOf i).toNat)
 case atStart => exact ⟨0, Nat.zero_le _, rfl, by rw [copiedTo_zero]; simpa using H0.out, by simpa using HA.out⟩
 case round =>
  clear hmk
  obtain ⟨k, hk, rfl, hown, hbel⟩ := hrel
  by_cases hlt : k < xs.length
  ·obtain ⟨b, off, rfl, _, hb, hcell⟩ := (ha.below hbel hhi).at_ hlt
   have hc := hown.cellAt k (by omega)
   have hf := hown.frozenAt k
   rw [List.getElem?_map, List.getElem?_eq_getElem (by rw [copiedTo_len _ _ _ hk]; exact hlt)] at hc
   simp only [Option.map_some] at hc
   have hst := hown.stored k (Value.string (xs.getD k ByteArray.empty))
   rw [← List.map_set, copiedTo_succ _ _ _ hlt] at hst
   have hb2 := hbel.grown hst.2 hbel.size (fun g hg => by injection hg with hg; omega)
   have HS := hd_ hst.1
   generalize xs.getD k ByteArray.empty = X at *
   clear hst hown H0 HA
   go_wp2
   go_roundw
   case rel => exact ⟨k + 1, by omega, by go_num, HS.out, hb2⟩
   case measure => simp [intOf]; omega
  ·go_wp2
   go_ret
   obtain rfl : k = xs.length := by omega
   rw [copiedTo_all] at hown
   exact ⟨_, rfl, ⟨⟨_, _, rfl⟩, hown⟩, hbel⟩
theorem toInt64S_any (A : Option Addr) (n c lo hi : Nat) (xs : List Int) (w : World) (ha : IntR w lo hi A n xs) (hhi : hi ≤ w.heap.size) (hn : n ≤ 1048576) :
  Calls Tryz.prog 48 #[.slice A n c] w fun e w' => ∃ v, e = .returned v ∧ OwnInts w' w.heap.size 2 v xs ∧ Below w.heap.size w w' := by
 have hmk := fun W => make_row (P := Tryz.prog) (Value.int .i64) (0 : Int) 29 2 Tryz.underlying29 (by omega) rfl infoInt64 n hn W
 have hl := ha.1
 subst hl
 have H0 := hd_ (own_made (Value.int .i64) (0 : Int) w 2 xs.length hn)
 have HA := hd_ ((Below.refl w.heap.size w).alloc (Nat.le_refl _) (.cells (List.replicate xs.length ((Value.int .i64) (0 : Int))).toArray 2))
 go_enter Tryz.func48, Tryz.ntmps48
 go_wp2
 go_loopw [4] (fun i wr => ∃ k : Nat, k ≤ xs.length ∧ i = .int .i64 k ∧ wr.ownsRow w.heap.size 2 1 (.slice (some ⟨w.heap.size, 0, none⟩) xs.length xs.length) xs.length ((copiedTo (0 : Int) k xs).map (Value.int .i64)) ∧ Below w.heap.size w wr) (fun i _ => xs.length - (intOf i).toNat)
 case atStart => exact ⟨0, Nat.zero_le _, rfl, by rw [copiedTo_zero]; simpa using H0.out, by simpa using HA.out⟩
 case round =>
  clear hmk
  obtain ⟨k, hk, rfl, hown, hbel⟩ := hrel
  by_cases hlt : k < xs.length
  ·obtain ⟨b, off, rfl, _, hb, hcell⟩ := (ha.below hbel hhi).at_ hlt
   have hc := hown.cellAt k (by omega)
   have hf := hown.frozenAt k
   rw [List.getElem?_map, List.getElem?_eq_getElem (by rw [copiedTo_len _ _ _ hk]; exact hlt)] at hc
   simp only [Option.map_some] at hc
   have hst := hown.stored k ((Value.int .i64) (xs.getD k (0 : Int)))
   rw [← List.map_set, copiedTo_succ _ _ _ hlt] at hst
   have hb2 := hbel.grown hst.2 hbel.size (fun g hg => by injection hg with hg; omega)
   have HS := hd_ hst.1
   generalize xs.getD k (0 : Int) = X at *
   clear hst hown H0 HA
   go_wp2
   go_roundw
   case rel => exact ⟨k + 1, by omega, by go_num, HS.out, hb2⟩
   case measure => simp [intOf]; omega
  ·go_wp2
   go_ret
   obtain rfl : k = xs.length := by omega
   rw [copiedTo_all] at hown
   exact ⟨_, rfl, ⟨⟨_, _, rfl⟩, hown⟩, hbel⟩
theorem take_eq_succ_int {xs ys : List Int} {k n : Nat} (hx : xs.length = n) (hy : ys.length = n) (hk : k < n) (h : xs.take k = ys.take k) (he : xs.getD k 0 = ys.getD k 0) :
  xs.take (k + 1) = ys.take (k + 1) := by
 rw [List.take_succ_eq_append_getElem (by omega), List.take_succ_eq_append_getElem (by omega), h]
 simp only [List.getD_eq_getElem?_getD, List.getElem?_eq_getElem (show k < xs.length by omega), List.getElem?_eq_getElem (show k < ys.length by omega), Option.getD_some] at he
 rw [he]
theorem eqInt64S_any (A B : Option Addr) (n m c d lo hi lo' hi' : Nat) (xs ys : List Int) (w : World) (ha : IntR w lo hi A n xs) (hb : IntR w lo' hi' B m ys)
  (hn : n ≤ 4294967296) (hm : m ≤ 4294967296) :
  Calls Tryz.prog 58 #[.slice A n c, .slice B m d] w fun e w' => e = .returned (.bool (decide (xs = ys))) ∧ Below w.heap.size w w' := by
 by_cases hne : n = m
 ·subst hne
  have hab : ((n : Int) != (n : Int)) = false := by simp
  go_enter Tryz.func58, Tryz.ntmps58
  go_wp2
  go_loopw [5] (fun i wr => ∃ k q : Nat, k ≤ n ∧ i = .int .i64 k ∧ wr = w.drewN q ∧ xs.take k = ys.take k) (fun i _ => n - (intOf i).toNat)
  case atStart => exact ⟨0, 0, Nat.zero_le _, rfl, rfl, rfl⟩
  case round =>
   obtain ⟨k, q, hk, rfl, rfl, ht⟩ := hrel
   have HT := hd_ ht; clear ht
   by_cases hlt : k < n
   ·obtain ⟨b, off, rfl, _, _, hc⟩ := ha.at_ hlt
    obtain ⟨b', off', rfl, _, _, hc'⟩ := hb.at_ hlt
    generalize hX : xs.getD k 0 = X at *
    generalize hY : ys.getD k 0 = Y at *
    have HX := hd_ hX; clear hX
    have HY := hd_ hY; clear hY
    have hi1 : (k : Int) < (n : Int) := by omega
    by_cases hxy : X = Y
    ·have hq : (X != Y) = false := by simp [hxy]
     have HQ := hd_ hxy; clear hxy
     go_wp2
     go_quiet (fail)
     go_wp2
     go_roundw
     case rel => exact ⟨k + 1, _, by omega, by go_num, rfl, take_eq_succ_int ha.1 hb.1 hlt HT.out (by rw [HX.out, HY.out]; exact HQ.out)⟩
     case measure => simp [intOf]; omega
    ·have hq : (X != Y) = true := by simp [hxy]
     go_wp2
     go_quiet (fail)
     go_wp2
     go_ret
     refine ⟨?_, by rw [World.drewN_drewN]; exact below_drewN' w _⟩
     have : xs ≠ ys := fun h => hxy (by rw [← HX.out, ← HY.out, h])
     simp [this]
   ·go_wp2
    go_ret
    obtain rfl : k = n := by omega
    refine ⟨?_, below_drewN' w _⟩
    have hxy : xs = ys := by
     have := HT.out
     rwa [List.take_of_length_le (by rw [ha.1]; omega), List.take_of_length_le (by rw [hb.1]; omega)] at this
    simp [hxy]
 ·have hab : ((n : Int) != (m : Int)) = true := by simp; omega
  go_enter Tryz.func58, Tryz.ntmps58
  go_wp2
  go_ret
  refine ⟨?_, Below.refl _ _⟩
  have : xs ≠ ys := fun h => hne (by rw [← ha.1, ← hb.1, h])
  simp [this]
end Go.Proofs.YtnnabkldceklmaaGreatDoor
