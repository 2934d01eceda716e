/- Walks of the helpers on slices of strings: eqStringS, markText, markStringS, heldStringS. -/
import Derived.Test.YtlodlplfmpikjaaGreatProg
import Derived.Test.YtlodlplfmpikjaaGreatMem
namespace Go.Proofs.YtlodlplfmpikjaaGreat
open Go.RowKit

theorem take_eq_succ {xs ys : List ByteArray} {k n : Nat} (hx : xs.length = n) (hy : ys.length = n) (hk : k < n) (h : xs.take k = ys.take k) (he : xs.getD k ByteArray.empty = ys.getD k ByteArray.empty) :
    xs.take (k + 1) = ys.take (k + 1) := by
  rw [List.take_succ_eq_append_getElem (by omega), List.take_succ_eq_append_getElem (by omega), h]
  simp only [List.getD_eq_getElem?_getD, List.getElem?_eq_getElem (show k < xs.length by omega), List.getElem?_eq_getElem (show k < ys.length by omega), Option.getD_some] at he
  rw [he]

theorem ne_of_getD {xs ys : List ByteArray} {k : Nat} (he : xs.getD k ByteArray.empty ≠ ys.getD k ByteArray.empty) : xs ≠ ys := fun h => he (by rw [h])

set_option maxHeartbeats 400000 in
theorem eqStringS_any (A B : Option Addr) (n m c d lo hi lo' hi' : Nat) (xs ys : List ByteArray) (w : World) (ha : StrR w lo hi A n xs) (hb : StrR w lo' hi' B m ys)
    (hn : n ≤ 4294967296) (hm : m ≤ 4294967296) :
    Calls Tryz.prog 32 #[.slice A n c, .slice B m d] w fun e w' => e = .returned (.bool (decide (xs = ys))) ∧ ∃ q, w' = w.drewN q := by
  by_cases hne : n = m
  · subst hne
    have hab : ((n : Int) != (n : Int)) = false := by simp
    go_enter Tryz.func32, Tryz.ntmps32
    go_wp2
    go_loopw [5] (fun i wr => ∃ k q : Nat, k ≤ n ∧ i = .int .i64 k ∧ wr = w.drewN q ∧ xs.take k = ys.take k) (fun i _ => n - (intOf i).toNat)
    case atStart => exact ⟨0, 0, Nat.zero_le _, rfl, rfl, rfl⟩
    case round =>
      obtain ⟨k, q, hk, rfl, rfl, ht⟩ := hrel
      have HT := Lib.hid ht; clear ht
      by_cases hlt : k < n
      · obtain ⟨b, off, rfl, _, _, hc⟩ := ha.at_ hlt
        obtain ⟨b', off', rfl, _, _, hc'⟩ := hb.at_ hlt
        generalize hX : xs.getD k ByteArray.empty = X at *
        generalize hY : ys.getD k ByteArray.empty = Y at *
        have HX := Lib.hid hX; clear hX
        have HY := Lib.hid hY; clear hY
        have hi1 : (k : Int) < (n : Int) := by omega
        go_wp2
        go_quiet (fail)
        go_wp2
        · have hq : (!X.toList == Y.toList) = true := by assumption
          go_ret
          refine ⟨?_, _, World.drewN_drewN _ _ _⟩
          have hne : X ≠ Y := beq_bytes_false (by simpa using hq)
          have : xs ≠ ys := ne_of_getD (k := k) (by rw [HX.out, HY.out]; exact hne)
          simp [this]
        · have hq : (!X.toList == Y.toList) = false := by assumption
          have he : X = Y := beq_bytes_true (by simpa using hq)
          go_roundw
          case rel => exact ⟨k + 1, _, by omega, by go_num, rfl, take_eq_succ ha.1 hb.1 hlt HT.out (by rw [HX.out, HY.out]; exact he)⟩
          case measure => simp [intOf]; omega
      · go_wp2
        go_ret
        obtain rfl : k = n := by omega
        refine ⟨?_, _, rfl⟩
        have hxy : xs = ys := by
          have := HT.out
          rwa [List.take_of_length_le (by rw [ha.1]; omega), List.take_of_length_le (by rw [hb.1]; omega)] at this
        simp [hxy]
  · have hab : ((n : Int) != (m : Int)) = true := by simp; omega
    go_enter Tryz.func32, Tryz.ntmps32
    go_wp2
    go_ret
    refine ⟨?_, 0, rfl⟩
    have : xs ≠ ys := fun h => hne (by rw [← ha.1, ← hb.1, h])
    simp [this]

theorem eqStringS_b (A B : Option Addr) (n m c d lo hi lo' hi' : Nat) (xs ys : List ByteArray) (w : World) (ha : StrR w lo hi A n xs) (hb : StrR w lo' hi' B m ys)
    (hn : n ≤ 4294967296) (hm : m ≤ 4294967296) :
    Calls Tryz.prog 32 #[.slice A n c, .slice B m d] w fun e w' => e = .returned (.bool (decide (xs = ys))) ∧ Below w.heap.size w w' :=
  (eqStringS_any A B n m c d lo hi lo' hi' xs ys w ha hb hn hm).mono fun _ _ ⟨he, q, hq⟩ => ⟨he, by rw [hq]; exact below_drewN' w q⟩

/-- The digits of k ahead of a text, as the marks' loop puts them. -/
def digitsOn : Nat → Nat → ByteArray → ByteArray
  | 0, _, out => out
  | f + 1, k, out => if 0 < k then digitsOn f (k / 10) (⟨#[48 + UInt8.ofNat (k % 10)]⟩ ++ out) else out

def markT (k : Nat) : ByteArray := ⟨#[109]⟩ ++ digitsOn k k ByteArray.empty

theorem digits_step {f j k : Nat} {out : ByteArray} (hj : 0 < j) (hf : j ≤ f) (h : digitsOn f j out = digitsOn k k ByteArray.empty) :
    ∃ g, f = g + 1 ∧ digitsOn g (j / 10) (⟨#[48 + UInt8.ofNat (j % 10)]⟩ ++ out) = digitsOn k k ByteArray.empty := by
  obtain ⟨g, rfl⟩ : ∃ g, f = g + 1 := ⟨f - 1, by omega⟩
  refine ⟨g, rfl, ?_⟩
  rw [← h]
  conv => rhs; unfold digitsOn
  rw [if_pos hj]

theorem digits_end {f k : Nat} {out : ByteArray} (h : digitsOn f 0 out = digitsOn k k ByteArray.empty) : out = digitsOn k k ByteArray.empty := by
  rw [← h]
  cases f <;> simp [digitsOn]

set_option maxHeartbeats 400000 in
set_option maxRecDepth 100000 in
theorem markText_any (k : Nat) (w : World) (h1 : 1 ≤ k) (h2 : k ≤ 4294967296) :
    Calls Tryz.prog 81 #[.int .i64 k] w fun e w' => e = .returned (.string (markT k)) ∧ Below w.heap.size w w' := by
  have hk0 : decide (k = 0) = false := by simp; omega
  have hcv := run_one_byte (P := Tryz.prog) 160 9 5 Tryz.underlying160 Tryz.underlying5 Tryz.underlying9
  go_enter Tryz.func81, Tryz.ntmps81
  go_wp2
  go_loopw [0, 3] (fun i s wr => ∃ (j f : Nat) (out : ByteArray), i = .int .i64 j ∧ s = .string out ∧ j ≤ f ∧ j ≤ k ∧ out.size + f ≤ k ∧ Hid (digitsOn f j out = digitsOn k k ByteArray.empty) ∧ Below w.heap.size w wr) (fun i _ _ => (intOf i).toNat)
  case atStart => exact ⟨k, k, ByteArray.empty, rfl, rfl, Nat.le_refl _, Nat.le_refl _, by simp, rfl, Below.refl _ _⟩
  case round =>
    obtain ⟨j, f, out, rfl, rfl, hjf, hjk, hsz, hd, hbel⟩ := hrel
    by_cases hj : 0 < j
    · go_wp2
      go_roundw
      case rel =>
        obtain ⟨g, rfl, hg⟩ := digits_step hj hjf hd.out
        exact ⟨j / 10, g, _, by go_num, rfl, by omega, by omega, by rw [ByteArray.size_append]; show 1 + out.size + g ≤ k; omega, hg, hbel.alloc hbel.size _⟩
      case measure => simp [intOf]; omega
    · go_wp2
      go_ret
      obtain rfl : j = 0 := by omega
      exact ⟨by rw [digits_end hd.out]; rfl, hbel⟩

theorem markText_int (a : Int) (w : World) (h1 : 1 ≤ a) (h2 : a ≤ 4294967296) :
    Calls Tryz.prog 81 #[.int .i64 a] w fun e w' => e = .returned (.string (markT a.toNat)) ∧ Below w.heap.size w w' := by
  obtain ⟨k, rfl⟩ := Int.eq_ofNat_of_zero_le (show 0 ≤ a by omega)
  exact markText_any k w (by omega) (by omega)

def marksFrom (k n : Nat) : List ByteArray := (List.range n).map fun i => markT (k + i)
def markedTo (k j : Nat) (xs : List ByteArray) : List ByteArray := marksFrom k j ++ xs.drop j

theorem marksFrom_len (k n : Nat) : (marksFrom k n).length = n := by simp [marksFrom]
theorem markedTo_zero (k : Nat) (xs : List ByteArray) : markedTo k 0 xs = xs := by simp [markedTo, marksFrom]
theorem markedTo_all (k n : Nat) (xs : List ByteArray) (h : xs.length = n) : markedTo k n xs = marksFrom k n := by simp [markedTo, ← h]
theorem markedTo_succ (k j : Nat) (xs : List ByteArray) (h : j < xs.length) : (markedTo k j xs).set j (markT (k + j)) = markedTo k (j + 1) xs := by
  unfold markedTo
  rw [List.set_append, if_neg (by rw [marksFrom_len]; omega), marksFrom_len, Nat.sub_self, List.drop_eq_getElem_cons h, List.set_cons_zero]
  simp [marksFrom, List.range_succ]

set_option maxHeartbeats 400000 in
theorem markStringS_any (base : Nat) (A : Option Addr) (n c k : Nat) (xs : List ByteArray) (w : World) (h : w.ownsRow base 9 1 (.slice A n c) n (xs.map Value.string))
    (h1 : 1 ≤ k) (h2 : k + n ≤ 4294967296) :
    Calls Tryz.prog 39 #[.slice A n c, .int .i64 k] w fun e w' => e = .returned (.int .i64 (k + n : Nat)) ∧
      w'.ownsRow base 9 1 (.slice A n c) n ((marksFrom k n).map Value.string) ∧ w.grownBy w' (Value.slice A n c).ownBlock := by
  have hl : xs.length = n := by have := h.1; simpa using this
  go_enter Tryz.func39, Tryz.ntmps39
  go_wp2
  go_loopw [1, 5] (fun s i wr => ∃ j : Nat, j ≤ n ∧ i = .int .i64 j ∧ s = .int .i64 (k + j : Nat) ∧ wr.ownsRow base 9 1 (.slice A n c) n ((markedTo k j xs).map Value.string) ∧ w.grownBy wr (Value.slice A n c).ownBlock) (fun _ i _ => n - (intOf i).toNat)
  case atStart => exact ⟨0, Nat.zero_le _, rfl, rfl, by rw [markedTo_zero]; exact h, World.grownBy.refl _ _⟩
  case round =>
    obtain ⟨j, hj, rfl, rfl, hown, hgr⟩ := hrel
    by_cases hlt : j < n
    · obtain ⟨g, rfl, hbg, hglt⟩ := own_head hown (by omega)
      go_wp2_with fail
      refine (markText_int _ _ (by omega) (by omega)).mono ?_
      rintro e w1 ⟨rfl, hb⟩
      have hown1 := own_below hown hb
      have hc := hown1.cellAt j (by omega)
      have hf := hown1.frozenAt j
      rw [List.getElem?_map, List.getElem?_eq_getElem (by simp [markedTo, marksFrom_len]; omega)] at hc
      simp only [Option.map_some] at hc
      rw [show ((k : Int) + (j : Int)).toNat = k + j by omega]
      have hst := hown1.stored j (.string (markT (k + j)))
      have hgr1 := grown_trans_below hgr hb
      clear hown1 hown hgr hb h
      go_wp2
      go_roundw
      case rel =>
        refine ⟨j + 1, by omega, by go_num, by go_num, ?_, grown_trans' hgr1 hst.2⟩
        rw [← markedTo_succ k j xs (by omega), List.map_set]
        exact hst.1
      case measure => simp [intOf]; omega
    · go_wp2
      go_ret
      obtain rfl : j = n := by omega
      exact ⟨rfl, by rw [markedTo_all k j xs hl] at hown; exact hown, hgr⟩

set_option maxHeartbeats 400000 in
theorem heldStringS_any (A : Option Addr) (n c k lo hi : Nat) (w : World) (h : StrR w lo hi A n (marksFrom k n)) (hhi : hi ≤ w.heap.size)
    (h1 : 1 ≤ k) (h2 : k + n ≤ 4294967296) :
    Calls Tryz.prog 46 #[.slice A n c, .int .i64 k] w fun e w' => e = .returned (.int .i64 (k + n : Nat)) ∧ Below w.heap.size w w' := by
  go_enter Tryz.func46, Tryz.ntmps46
  go_wp2
  go_loopw [1, 5] (fun s i wr => ∃ j : Nat, j ≤ n ∧ i = .int .i64 j ∧ s = .int .i64 (k + j : Nat) ∧ Below w.heap.size w wr) (fun _ i _ => n - (intOf i).toNat)
  case atStart => exact ⟨0, Nat.zero_le _, rfl, rfl, Below.refl _ _⟩
  case round =>
    obtain ⟨j, hj, rfl, rfl, hbel⟩ := hrel
    by_cases hlt : j < n
    · obtain ⟨b, off, rfl, _, hblt, hc⟩ := (h.below hbel hhi).at_ hlt
      have hg : (marksFrom k n).getD j ByteArray.empty = markT (k + j) := by simp [marksFrom, List.getD_eq_getElem?_getD, hlt]
      rw [hg] at hc
      clear hg
      have hi1 : (j : Int) < (n : Int) := by omega
      have hbw : b < w.heap.size := by omega
      have hts : ((k : Int) + (j : Int)).toNat = k + j := by omega
      have hbd := hbel.drew
      go_wp2_with fail
      go_region_held3 (fun w' => w'.cell? ⟨b, off + j, none⟩ = some (.string (markT (k + j))) ∧ Below w.heap.size w w') (first | exact ⟨hc, hbel⟩ | exact ⟨hc, hbd⟩ | exact keep_cell hbw hb (by assumption) (by assumption))
        (first | (go_at_call 81; refine (markText_int _ _ (by omega) (by omega)).mono ?_; rintro e w1 ⟨rfl, hb⟩))
      have hb2 : Below w.heap.size w w1 := hbd.trans (hb.mono hbd.size)
      clear hb hbd hbel
      go_wp2
      go_roundw
      case rel => exact ⟨j + 1, by omega, by go_num, by go_num, hb2⟩
      case measure => simp [intOf]; omega
    · go_wp2
      go_ret
      obtain rfl : j = n := by omega
      exact ⟨rfl, hbel⟩

theorem markStringS_one (base : Nat) (A : Option Addr) (n c : Nat) (xs : List ByteArray) (w : World) (h : w.ownsRow base 9 1 (.slice A n c) n (xs.map Value.string)) (h2 : n ≤ 4294967000) :
    Calls Tryz.prog 39 #[.slice A n c, .int .i64 1] w fun e w' => e = .returned (.int .i64 (1 + n : Nat)) ∧
      w'.ownsRow base 9 1 (.slice A n c) n ((marksFrom 1 n).map Value.string) ∧ w.grownBy w' (Value.slice A n c).ownBlock := markStringS_any base A n c 1 xs w h (by omega) (by omega)

theorem heldStringS_one (A : Option Addr) (n c lo hi : Nat) (w : World) (h : StrR w lo hi A n (marksFrom 1 n)) (hhi : hi ≤ w.heap.size) (h2 : n ≤ 4294967000) :
    Calls Tryz.prog 46 #[.slice A n c, .int .i64 1] w fun e w' => e = .returned (.int .i64 (1 + n : Nat)) ∧ Below w.heap.size w w' := heldStringS_any A n c 1 lo hi w h hhi (by omega) (by omega)

end Go.Proofs.YtlodlplfmpikjaaGreat
