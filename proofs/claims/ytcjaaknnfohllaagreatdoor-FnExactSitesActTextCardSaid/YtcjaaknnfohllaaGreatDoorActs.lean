/- Walks of the small predicates: ranges, lists of texts, lists of numbers that rise. -/
import Derived.Test.YtcjaaknnfohllaaGreatDoorSlices
import Derived.Test.YtcjaaknnfohllaaGreatDoorNames
import Derived.Test.YtcjaaknnfohllaaGreatDoorShelfC
namespace Go.Proofs.YtcjaaknnfohllaaGreatDoor
open Go.RowKit

def inB (a lo hi : Int) : Bool := decide (lo ≤ a ∧ a ≤ hi)

theorem inB_true {a lo hi : Int} (h1 : lo ≤ a) (h2 : a ≤ hi) : inB a lo hi = true := by simp [inB, h1, h2]
theorem inB_low {a lo hi : Int} (h : a < lo) : inB a lo hi = false := by simp [inB]; omega
theorem inB_high {a lo hi : Int} (h : hi < a) : inB a lo hi = false := by simp [inB]; omega

theorem within_any (a lo hi : Int) (w : World) : Calls Tryz.prog 85 #[.int .i64 a, .int .i64 lo, .int .i64 hi] w fun e w' => e = .returned (.bool (inB a lo hi)) ∧ w = w' := by
  by_cases h1 : lo ≤ a
  · by_cases h2 : a ≤ hi
    · rw [inB_true h1 h2]
      go_enter Tryz.func85, Tryz.ntmps85
      go_wp2
      go_ret
      exact ⟨by simp, rfl⟩
    · rw [inB_high (by omega)]
      go_enter Tryz.func85, Tryz.ntmps85
      go_wp2
      go_ret
      exact ⟨by simp, rfl⟩
  · rw [inB_low (by omega)]
    go_enter Tryz.func85, Tryz.ntmps85
    go_wp2
    go_ret
    exact ⟨by simp, rfl⟩

theorem l00In_any (a lo hi : Int) (w : World) : Calls Tryz.prog 78 #[.int .i64 a, .int .i64 lo, .int .i64 hi] w fun e w' => e = .returned (.bool (inB a lo hi)) ∧ w = w' := by
  by_cases h1 : lo ≤ a
  · by_cases h2 : a ≤ hi
    · rw [inB_true h1 h2]
      go_enter Tryz.func78, Tryz.ntmps78
      go_wp2
      go_ret
      exact ⟨by simp, rfl⟩
    · rw [inB_high (by omega)]
      go_enter Tryz.func78, Tryz.ntmps78
      go_wp2
      go_ret
      exact ⟨by simp, rfl⟩
  · rw [inB_low (by omega)]
    go_enter Tryz.func78, Tryz.ntmps78
    go_wp2
    go_ret
    exact ⟨by simp, rfl⟩

/-- No text of the list is longer than a value. -/
def shortB (x : ByteArray) : Bool := decide (x.size ≤ 64)
def textsB (most : Nat) (l : List ByteArray) : Bool := decide (l.length ≤ most) && l.all shortB

theorem all_take_succ {α : Type} (p : α → Bool) (d : α) (l : List α) (k : Nat) (h : k < l.length) : (l.take (k + 1)).all p = ((l.take k).all p && p (l.getD k d)) := by
  rw [List.take_succ_eq_append_getElem h, List.all_append, List.getD_eq_getElem?_getD, List.getElem?_eq_getElem h]
  simp

theorem all_false_at {α : Type} (p : α → Bool) (d : α) (l : List α) (k : Nat) (h : k < l.length) (hp : p (l.getD k d) = false) : l.all p = false := by
  rw [List.all_eq_false]
  refine ⟨l.getD k d, ?_, by rw [hp]; simp⟩
  rw [List.getD_eq_getElem?_getD, List.getElem?_eq_getElem h]
  exact List.getElem_mem _

set_option maxHeartbeats 400000 in
theorem l32Texts_any (A : Option Addr) (n c lo hi : Nat) (most : Int) (xs : List ByteArray) (w : World) (ha : StrR w lo hi A n xs) (hn : n ≤ 1048576) (hm : 0 ≤ most) (hm2 : most ≤ 1000) (hb : ∀ x ∈ xs, x.size ≤ 1048576) :
    Calls Tryz.prog 138 #[.slice A n c, .int .i64 most] w fun e w' => e = .returned (.bool (textsB most.toNat xs)) ∧ w = w' := by
  have hl := ha.1
  by_cases hfit : (n : Int) ≤ most
  · have hd : ¬ (most < (n : Int)) := by omega
    go_enter Tryz.func138, Tryz.ntmps138
    have HL := Lib.hid hl; clear hl
    go_wp2
    go_loop [5] (fun i => ∃ k : Nat, k ≤ n ∧ i = .int .i64 k ∧ (xs.take k).all shortB = true) (fun i => n - (intOf i).toNat)
    case atStart => exact ⟨0, Nat.zero_le _, rfl, rfl⟩
    case round =>
      obtain ⟨k, hk, rfl, ht⟩ := hrel
      have HT := Lib.hid ht; clear ht
      by_cases hlt : k < n
      · obtain ⟨b, off, rfl, _, _, hcell⟩ := ha.at_ hlt
        have hkl : k < xs.length := by rw [HL.out]; exact hlt
        have hx : (xs.getD k ByteArray.empty).size ≤ 1048576 := by
          rw [List.getD_eq_getElem?_getD, List.getElem?_eq_getElem hkl]
          exact hb _ (List.getElem_mem _)
        have HS := Lib.hid (all_take_succ shortB ByteArray.empty xs k hkl)
        have HF := Lib.hid (all_false_at shortB ByteArray.empty xs k hkl)
        generalize xs.getD k ByteArray.empty = X at *
        clear hb ha
        by_cases hs : X.size ≤ 64
        · have HB := Lib.hid (show shortB X = true by simp [shortB, hs])
          go_wp2
          go_round
          case rel => exact ⟨k + 1, by omega, by go_num, by rw [HS.out, HT.out, HB.out]; rfl⟩
          case measure => simp [intOf]; omega
        · have HB := Lib.hid (show shortB X = false by simp [shortB]; omega)
          go_wp2
          go_ret
          refine ⟨?_, rfl⟩
          unfold textsB
          rw [HF.out HB.out, Bool.and_false]
          rfl
      · go_wp2
        go_ret
        obtain rfl : k = n := by omega
        refine ⟨?_, rfl⟩
        have h1 := HT.out
        rw [List.take_of_length_le (by rw [HL.out]; omega)] at h1
        unfold textsB
        rw [h1, HL.out, decide_eq_true (by omega)]
        rfl
  · have hd : most < (n : Int) := by omega
    go_enter Tryz.func138, Tryz.ntmps138
    go_wp2
    go_ret
    refine ⟨?_, rfl⟩
    unfold textsB
    rw [hl, decide_eq_false (by omega)]
    rfl

set_option maxHeartbeats 400000 in
theorem l27Input_any (A : Option Addr) (n c lo hi : Nat) (xs : List ByteArray) (w : World) (ha : StrR w lo hi A n xs) (hn : n ≤ 1048576) (hb : ∀ x ∈ xs, x.size ≤ 1048576) :
    Calls Tryz.prog 139 #[.slice A n c] w fun e w' => e = .returned (.bool (textsB 8 xs)) ∧ w = w' := by
  have hl := ha.1
  by_cases hfit : n ≤ 8
  · go_enter Tryz.func139, Tryz.ntmps139
    have HL := Lib.hid hl; clear hl
    have hdd : decide (8 < (n : Int)) = false := by simp; omega
    go_wp2
    go_loop [3] (fun i => ∃ k : Nat, k ≤ n ∧ i = .int .i64 k ∧ (xs.take k).all shortB = true) (fun i => n - (intOf i).toNat)
    case atStart => exact ⟨0, Nat.zero_le _, rfl, rfl⟩
    case round =>
      obtain ⟨k, hk, rfl, ht⟩ := hrel
      have HT := Lib.hid ht; clear ht
      by_cases hlt : k < n
      · obtain ⟨b, off, rfl, _, _, hcell⟩ := ha.at_ hlt
        have hkl : k < xs.length := by rw [HL.out]; exact hlt
        have hx : (xs.getD k ByteArray.empty).size ≤ 1048576 := by
          rw [List.getD_eq_getElem?_getD, List.getElem?_eq_getElem hkl]
          exact hb _ (List.getElem_mem _)
        have HS := Lib.hid (all_take_succ shortB ByteArray.empty xs k hkl)
        have HF := Lib.hid (all_false_at shortB ByteArray.empty xs k hkl)
        generalize xs.getD k ByteArray.empty = X at *
        clear hb ha
        by_cases hs : X.size ≤ 64
        · have HB := Lib.hid (show shortB X = true by simp [shortB, hs])
          go_wp2
          go_round
          case rel => exact ⟨k + 1, by omega, by go_num, by rw [HS.out, HT.out, HB.out]; rfl⟩
          case measure => simp [intOf]; omega
        · have HB := Lib.hid (show shortB X = false by simp [shortB]; omega)
          go_wp2
          go_ret
          refine ⟨?_, rfl⟩
          unfold textsB
          rw [HF.out HB.out, Bool.and_false]
          rfl
      · go_wp2
        go_ret
        obtain rfl : k = n := by omega
        refine ⟨?_, rfl⟩
        have h1 := HT.out
        rw [List.take_of_length_le (by rw [HL.out]; omega)] at h1
        unfold textsB
        rw [h1, HL.out, decide_eq_true (by omega)]
        rfl
  · have hB : textsB 8 xs = false := by unfold textsB; rw [hl, decide_eq_false hfit]; rfl
    rw [hB]; clear hB
    go_enter Tryz.func139, Tryz.ntmps139
    go_wp2
    go_ret
    exact ⟨rfl, rfl⟩

theorem long_pays (w : World) : PredAt Tryz.prog 193 #[] Value.string (fun x : ByteArray => decide (64 < x.size)) w := by
  intro W x hb
  unfold FnGives
  by_cases h : 64 < x.size
  · go_enter Tryz.func193, Tryz.ntmps193
    go_wp2
    go_ret
    exact ⟨by simp [h]; omega, 0, rfl⟩
  · go_enter Tryz.func193, Tryz.ntmps193
    go_wp2
    go_ret
    exact ⟨by simp [h]; omega, 0, rfl⟩

theorem any_long (xs : List ByteArray) : (xs.any fun x => decide (64 < x.size)) = !xs.all shortB := by
  induction xs with
  | nil => rfl
  | cons x xs ih =>
    simp only [List.any_cons, List.all_cons, ih, Bool.not_and]
    congr 1
    unfold shortB
    rw [Bool.eq_iff_iff]
    simp

set_option maxHeartbeats 400000 in
theorem long_any (A : Option Addr) (n c lo hi : Nat) (xs : List ByteArray) (w : World) (ha : StrR w lo hi A n xs) (hn : n ≤ 1048576) :
    Calls Tryz.prog 145 #[.slice A n c] w fun e w' => e = .returned (.bool (!xs.all shortB)) ∧ ∃ q, w' = w.drewN q := by
  have hl := ha.1
  subst hl
  by_cases h0 : 0 < xs.length
  · obtain ⟨b, off, rfl, _, _, hc⟩ := ha.2 h0
    have HC := Lib.hid (fun (W : World) (hW : ∀ j, j < xs.length → W.cell? ⟨b, off + j, none⟩ = some (Value.string (xs.getD j ByteArray.empty))) =>
      Tryz.slices_ContainsFunc Value.string (fun x : ByteArray => decide (64 < x.size)) 193 #[] (enters_of Tryz.func193 (by kernel_rfl) rfl) b off xs.length c xs W (long_pays W) (Nat.le_refl _) (by omega)
        (fun j hj => by rw [hW j hj, List.getD_eq_getElem?_getD, List.getElem?_eq_getElem hj]; simp [hj]))
    clear ha
    have HH := Lib.hid hc; clear hc
    go_enter Tryz.func145, Tryz.ntmps145
    go_wp2_with fail
    refine (HC.out _ HH.out).mono ?_
    rintro e w1 ⟨rfl, q, rfl⟩
    go_wp2
    go_ret
    refine ⟨?_, q, rfl⟩
    rw [← any_long]
    rfl
  · have hx : xs = [] := List.eq_nil_of_length_eq_zero (by omega)
    subst hx
    have HC := Lib.hid (Tryz.slices_ContainsFunc_empty (α := ByteArray) A c (.func (.func 193) #[] #[]) w)
    clear ha h0
    go_enter Tryz.func145, Tryz.ntmps145
    go_wp2_with fail
    refine HC.out.mono ?_
    rintro e w1 ⟨rfl, rfl⟩
    go_wp2
    go_ret
    exact ⟨rfl, 0, rfl⟩

set_option maxHeartbeats 400000 in
theorem inputListOk_any (A : Option Addr) (n c lo hi : Nat) (xs : List ByteArray) (w : World) (ha : StrR w lo hi A n xs) (hn : n ≤ 1048576) :
    Calls Tryz.prog 146 #[.slice A n c] w fun e w' => e = .returned (.bool (textsB 8 xs)) ∧ ∃ q, w' = w.drewN q := by
  have hl := ha.1
  by_cases hfit : n ≤ 8
  · have hB : textsB 8 xs = xs.all shortB := by unfold textsB; rw [hl, decide_eq_true hfit]; rfl
    rw [hB]; clear hB hl
    cases hal : xs.all shortB
    all_goals
      go_enter Tryz.func146, Tryz.ntmps146
      go_wp2_with fail
      refine (long_any A n c lo hi xs _ ha hn).mono ?_
      rintro e w1 ⟨rfl, q, rfl⟩
      go_wp2_with fail
      go_ret
      exact ⟨rfl, q, rfl⟩
  · have hB : textsB 8 xs = false := by unfold textsB; rw [hl, decide_eq_false hfit]; rfl
    rw [hB]; clear hB hl
    go_enter Tryz.func146, Tryz.ntmps146
    go_wp2_with fail
    go_ret
    refine ⟨?_, 0, rfl⟩
    simp
    try omega

/-- The first k numbers rise. -/
def riseTo (l : List Int) (k : Nat) : Bool := (List.range (k - 1)).all fun j => decide (l.getD j 0 < l.getD (j + 1) 0)
def keepB (l : List Int) : Bool := decide (l.length ≤ 400) && riseTo l l.length && decide (l.length = 0 ∨ 0 ≤ l.getD 0 0)

theorem riseTo_succ (l : List Int) (k : Nat) : riseTo l (k + 2) = (riseTo l (k + 1) && decide (l.getD k 0 < l.getD (k + 1) 0)) := by
  unfold riseTo
  rw [show k + 2 - 1 = k + 1 by omega, show k + 1 - 1 = k by omega, List.range_succ, List.all_append]
  simp

theorem riseTo_false {l : List Int} {k n : Nat} (hk : k + 1 < n) (h : ¬ l.getD k 0 < l.getD (k + 1) 0) : riseTo l n = false := by
  unfold riseTo
  rw [List.all_eq_false]
  exact ⟨k, by simp; omega, by simpa using h⟩

set_option maxHeartbeats 400000 in
theorem rising_any (A : Option Addr) (n c lo hi : Nat) (xs : List Int) (w : World) (ha : IntR w lo hi A n xs) (hn : n ≤ 1048576) :
    Calls Tryz.prog 194 #[.slice A n c] w fun e w' => e = .returned (.bool (riseTo xs n)) ∧ ∃ q, w' = w.drewN q := by
  go_enter Tryz.func194, Tryz.ntmps194
  go_wp2
  go_loopw [3] (fun i wr => ∃ k q : Nat, (k + 1 ≤ n ∨ k = 0) ∧ i = .int .i64 (k + 1 : Nat) ∧ riseTo xs (k + 1) = true ∧ wr = w.drewN q) (fun i _ => n - (intOf i).toNat)
  case atStart => exact ⟨0, 0, .inr rfl, rfl, rfl, rfl⟩
  case round =>
    obtain ⟨k, q, hk, rfl, ht, rfl⟩ := hrel
    have HT := Lib.hid ht; clear ht
    by_cases hlt : k + 1 < n
    · obtain ⟨b, off, rfl, _, _, hc1⟩ := ha.at_ hlt
      obtain ⟨b', off', e, _, _, hc0⟩ := ha.at_ (show k < n by omega)
      injection e with e
      injection e with e1 e2
      subst e1 e2
      have HS := Lib.hid (riseTo_succ xs k)
      have HF := Lib.hid (fun h => riseTo_false (l := xs) (k := k) (n := n) hlt h)
      have hi1 : ((k + 1 : Nat) : Int) < (n : Int) := by omega
      have hi0 : ((k + 1 : Nat) : Int) - 1 < (n : Int) := by omega
      generalize xs.getD k 0 = X at *
      generalize xs.getD (k + 1) 0 = Y at *
      have w1 : IntKind.i64.wrap (((k + 1 : Nat) : Int) - 1) = (k : Int) := by rw [IntWalk.i64_in _ (by omega)]; omega
      by_cases hxy : X < Y
      · have HX := Lib.hid hxy
        go_wp2
        go_quiet (fail)
        clear w1
        go_wp2
        go_roundw
        case rel => exact ⟨k + 1, _, .inl (by omega), by go_num, by rw [HS.out, HT.out, decide_eq_true HX.out]; rfl, rfl⟩
        case measure => simp [intOf]; omega
      · go_wp2
        go_quiet (fail)
        clear w1
        go_wp2
        go_ret
        refine ⟨?_, _, by rw [World.drewN_drewN]⟩
        rw [HF.out (by omega)]
        rfl
    · go_wp2
      go_ret
      refine ⟨?_, q, rfl⟩
      have : riseTo xs n = true := by
        rcases hk with hk | hk
        · obtain rfl : n = k + 1 := by omega
          exact HT.out
        · subst hk
          have h1 : n = 0 ∨ n = 1 := by omega
          rcases h1 with rfl | rfl <;> rfl
      rw [this]
      rfl

set_option maxHeartbeats 1000000 in
theorem keepOk_any (A : Option Addr) (n c lo hi : Nat) (xs : List Int) (w : World) (ha : IntR w lo hi A n xs) (hn : n ≤ 1048576) :
    Calls Tryz.prog 149 #[.slice A n c] w fun e w' => e = .returned (.bool (keepB xs)) ∧ ∃ q, w' = w.drewN q := by
  have hl := ha.1
  subst hl
  by_cases h4 : xs.length ≤ 400
  · cases hr : riseTo xs xs.length
    · have hB : keepB xs = false := by unfold keepB; rw [hr]; simp
      rw [hB]; clear hB
      go_enter Tryz.func149, Tryz.ntmps149
      go_wp2_with fail
      refine (rising_any A _ c lo hi xs _ ha hn).mono ?_
      rintro e w1 ⟨rfl, q, rfl⟩
      go_wp2_with fail
      go_ret
      exact ⟨rfl, q, rfl⟩
    · by_cases h0 : xs.length = 0
      · have hB : keepB xs = true := by unfold keepB; rw [hr]; simp [h0]
        rw [hB]; clear hB
        have hz : ((xs.length : Int) == 0) = true := by rw [beq_iff_eq]; omega
        have H0 := Lib.hid h0; clear h0
        go_enter Tryz.func149, Tryz.ntmps149
        go_wp2_with fail
        refine (rising_any A _ c lo hi xs _ ha hn).mono ?_
        rintro e w1 ⟨rfl, q, rfl⟩
        go_wp2_with fail
        go_ret
        exact ⟨rfl, q, rfl⟩
      · have hz : ((xs.length : Int) == 0) = false := by rw [beq_eq_false_iff_ne]; omega
        obtain ⟨b, off, rfl, _, _, hc⟩ := ha.at_ (show 0 < xs.length by omega)
        have hB : keepB xs = decide (0 ≤ xs.getD 0 0) := by unfold keepB; rw [hr, decide_eq_true h4]; simp [h0]
        rw [hB]; clear hB
        have HA := Lib.hid ha; clear ha
        rw [Nat.add_zero] at hc
        have hp0 : (0 : Int) < (xs.length : Int) := by omega
        generalize xs.getD 0 0 = X at *
        by_cases hX : 0 ≤ X
        all_goals
          go_enter Tryz.func149, Tryz.ntmps149
          go_wp2_with fail
          refine (rising_any _ _ c lo hi xs _ HA.out hn).mono ?_
          rintro e w1 ⟨rfl, q, rfl⟩
          go_wp2_with fail
          go_ret
          exact ⟨by simp [hX], q, rfl⟩
  · have hB : keepB xs = false := by unfold keepB; rw [decide_eq_false h4]; simp
    rw [hB]; clear hB
    go_enter Tryz.func149, Tryz.ntmps149
    go_wp2_with fail
    go_ret
    refine ⟨?_, 0, rfl⟩
    simp
    try omega

set_option maxHeartbeats 2000000 in
set_option maxRecDepth 100000 in
theorem l32Keep_any (A : Option Addr) (n c lo hi : Nat) (xs : List Int) (w : World) (ha : IntR w lo hi A n xs) (hn : n ≤ 1048576) :
    Calls Tryz.prog 141 #[.slice A n c] w fun e w' => e = .returned (.bool (keepB xs)) ∧ ∃ q, w' = w.drewN q := by
  have hl := ha.1
  have HL := Lib.hid hl; clear hl
  go_enter Tryz.func141, Tryz.ntmps141
  go_wp2
  go_loopw [3] (fun i wr => ∃ k q : Nat, k ≤ n ∧ k ≤ 401 ∧ i = .int .i64 k ∧ riseTo xs k = true ∧ (k = 0 ∨ (0 ≤ xs.getD 0 0 ∧ 0 ≤ xs.getD (k - 1) 0)) ∧ wr = w.drewN q) (fun i _ => n - (intOf i).toNat)
  case atStart => exact ⟨0, 0, Nat.zero_le _, by omega, rfl, rfl, .inl rfl, rfl⟩
  case round =>
    obtain ⟨k, q, hk, hk4, rfl, ht, hp, rfl⟩ := hrel
    have HT := Lib.hid ht; have HP := Lib.hid hp; clear ht hp
    by_cases hlt : k < n
    · by_cases h401 : k ≤ 400
      · obtain ⟨b, off, rfl, _, _, hc⟩ := ha.at_ hlt
        have hi1 : (k : Int) < (n : Int) := by omega
        by_cases h0 : k = 0
        · subst h0
          rw [Nat.add_zero] at hc
          have hi0 : (0 : Int) < (n : Int) := by omega
          have HX := Lib.hid (show ∀ x, xs.getD 0 0 = x → 0 ≤ x → riseTo xs (0 + 1) = true ∧ (0 ≤ xs.getD 0 0 ∧ 0 ≤ xs.getD (0 + 1 - 1) 0) from fun x hx h => ⟨rfl, by rw [hx]; exact h, by rw [show 0 + 1 - 1 = 0 from rfl, hx]; exact h⟩)
          have HN := Lib.hid (show ∀ x, xs.getD 0 0 = x → x < 0 → keepB xs = false from fun x hx h => by
            unfold keepB
            rw [hx, decide_eq_false (p := _ ∨ _) (by rw [HL.out]; omega)]
            simp)
          generalize hXe : xs.getD 0 0 = X at *
          have HXe := Lib.hid hXe; clear hXe
          by_cases hneg : X < 0
          · have hd : decide (X < 0) = true := by simpa using hneg
            go_wp2
            go_quiet (fail)
            go_wp2
            go_ret
            refine ⟨?_, _, by rw [World.drewN_drewN]⟩
            rw [HN.out _ rfl hneg]
            rfl
          · have hd : decide (X < 0) = false := by simpa using hneg
            have hd0 : decide (0 < ((0 : Nat) : Int)) = false := by decide
            have hdz : decide ((0 : Int) < 0) = false := by decide
            go_wp2
            go_quiet (fail)
            go_wp2
            go_roundw
            case rel => exact ⟨0 + 1, _, by omega, by omega, by go_num, (HX.out _ rfl (by omega)).1, .inr (by rw [HXe.out] at *; exact (HX.out _ rfl (by omega)).2), rfl⟩
            case measure => simp [intOf]; omega
        · obtain ⟨j, rfl⟩ : ∃ j, k = j + 1 := ⟨k - 1, by omega⟩
          obtain ⟨b', off', e, _, _, hc0⟩ := ha.at_ (show j < n by omega)
          injection e with e
          injection e with e1 e2
          subst e1 e2
          have hi0 : ((j + 1 : Nat) : Int) - 1 < (n : Int) := by omega
          have w1 : IntKind.i64.wrap (((j + 1 : Nat) : Int) - 1) = (j : Int) := by rw [IntWalk.i64_in _ (by omega)]; omega
          have hgt : decide (0 < ((j + 1 : Nat) : Int)) = true := by rw [decide_eq_true_iff]; omega
          have hgt2 : decide (0 < (j : Int) + 1) = true := by rw [decide_eq_true_iff]; omega
          have hp1 : 0 ≤ xs.getD 0 0 ∧ 0 ≤ xs.getD j 0 := by
            rcases HP.out with h | h
            · omega
            · exact h
          have HF := Lib.hid (show ¬ xs.getD j 0 < xs.getD (j + 1) 0 → keepB xs = false from fun h => by
            unfold keepB
            rw [riseTo_false (l := xs) (k := j) (n := xs.length) (by rw [HL.out]; omega) h]
            simp)
          have HS := Lib.hid (riseTo_succ xs j)
          have HP0 := Lib.hid hp1.1
          have hX0 := hp1.2
          have HE := Lib.hid (show xs.getD (j + 1 + 1 - 1) 0 = xs.getD (j + 1) 0 from rfl)
          clear hp1 HP ha
          generalize xs.getD j 0 = X at *
          generalize xs.getD (j + 1) 0 = Y at *
          by_cases hneg : Y < 0
          · have hd : decide (Y < 0) = true := by simpa using hneg
            go_wp2
            go_quiet (fail)
            clear w1
            go_wp2
            go_ret
            refine ⟨?_, _, by rw [World.drewN_drewN]⟩
            rw [HF.out (by omega)]
            rfl
          · have hd : decide (Y < 0) = false := by simpa using hneg
            by_cases hxy : X < Y
            · have HX := Lib.hid hxy
              have hd2 : decide (Y ≤ X) = false := by simpa using hxy
              go_wp2
              go_quiet (fail)
              clear w1
              go_wp2
              go_roundw
              case rel => exact ⟨j + 1 + 1, _, by omega, by omega, by go_num, by rw [HS.out, HT.out, decide_eq_true HX.out]; rfl, .inr ⟨HP0.out, by rw [HE.out]; omega⟩, rfl⟩
              case measure => simp [intOf]; omega
            · have hd2 : decide (Y ≤ X) = true := by simpa using hxy
              go_wp2
              go_quiet (fail)
              clear w1
              go_wp2
              go_ret
              refine ⟨?_, _, by rw [World.drewN_drewN]⟩
              rw [HF.out (by omega)]
              rfl
      · have HB := Lib.hid (show keepB xs = false by unfold keepB; rw [HL.out, decide_eq_false (by omega)]; rfl)
        go_wp2
        go_ret
        refine ⟨?_, q, rfl⟩
        rw [HB.out]
        simp
        try omega
    · obtain rfl : k = n := by omega
      by_cases h4 : k ≤ 400
      · have HB := Lib.hid (show keepB xs = true by
          unfold keepB
          rw [HL.out, HT.out, decide_eq_true h4, decide_eq_true (p := _ ∨ _) (by rcases HP.out with h | h; exact .inl h; exact .inr h.1)]
          rfl)
        go_wp2
        go_ret
        refine ⟨?_, q, rfl⟩
        rw [HB.out]
        simp
        try omega
      · have HB := Lib.hid (show keepB xs = false by unfold keepB; rw [HL.out, decide_eq_false h4]; rfl)
        go_wp2
        go_ret
        refine ⟨?_, q, rfl⟩
        rw [HB.out]
        simp
        try omega

end Go.Proofs.YtcjaaknnfohllaaGreatDoor
