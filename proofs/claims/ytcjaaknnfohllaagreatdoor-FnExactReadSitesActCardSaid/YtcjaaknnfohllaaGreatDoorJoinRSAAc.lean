/- Walks of the small predicates: ranges, lists of texts, lists of numbers that rise. -/
import Derived.Test.YtcjaaknnfohllaaGreatDoorJoinRSAAa
import Derived.Test.YtcjaaknnfohllaaGreatDoorJoinRSAAb
import Derived.Test.YtcjaaknnfohllaaGreatDoorShelfC
namespace Go.Proofs.YtcjaaknnfohllaaGreatDoor
open Go.RowKit

def inB (a lo hi : Int) : Bool := decide (lo ≤ a ∧ a ≤ hi)

theorem inB_true {a lo hi : Int} (h1 : lo ≤ a) (h2 : a ≤ hi) : inB a lo hi = true := by simp [inB, h1, h2]
theorem inB_low {a lo hi : Int} (h : a < lo) : inB a lo hi = false := by simp [inB]; omega
theorem inB_high {a lo hi : Int} (h : hi < a) : inB a lo hi = false := by simp [inB]; omega

theorem within_any (a lo hi : Int) (w : World) : Calls Tryz.prog 85 #[.int .i64 a, .int .i64 lo, .int .i64 hi] w fun e w' => e = .returned (.bool (inB a lo hi)) ∧ w = w' := by
  by_cases h1 : lo ≤ a
  · by_cases h2 : a ≤ hi
    · rw [inB_true h1 h2]
      go_enter Tryz.func85, Tryz.ntmps85
      go_wp2
      go_ret
      exact ⟨by simp, rfl⟩
    · rw [inB_high (by omega)]
      go_enter Tryz.func85, Tryz.ntmps85
      go_wp2
      go_ret
      exact ⟨by simp, rfl⟩
  · rw [inB_low (by omega)]
    go_enter Tryz.func85, Tryz.ntmps85
    go_wp2
    go_ret
    exact ⟨by simp, rfl⟩

theorem l00In_any (a lo hi : Int) (w : World) : Calls Tryz.prog 78 #[.int .i64 a, .int .i64 lo, .int .i64 hi] w fun e w' => e = .returned (.bool (inB a lo hi)) ∧ w = w' := by
  by_cases h1 : lo ≤ a
  · by_cases h2 : a ≤ hi
    · rw [inB_true h1 h2]
      go_enter Tryz.func78, Tryz.ntmps78
      go_wp2
      go_ret
      exact ⟨by simp, rfl⟩
    · rw [inB_high (by omega)]
      go_enter Tryz.func78, Tryz.ntmps78
      go_wp2
      go_ret
      exact ⟨by simp, rfl⟩
  · rw [inB_low (by omega)]
    go_enter Tryz.func78, Tryz.ntmps78
    go_wp2
    go_ret
    exact ⟨by simp, rfl⟩

/-- No text of the list is longer than a value. -/
def shortB (x : ByteArray) : Bool := decide (x.size ≤ 64)
def textsB (most : Nat) (l : List ByteArray) : Bool := decide (l.length ≤ most) && l.all shortB

theorem all_take_succ {α : Type} (p : α → Bool) (d : α) (l : List α) (k : Nat) (h : k < l.length) : (l.take (k + 1)).all p = ((l.take k).all p && p (l.getD k d)) := by
  rw [List.take_succ_eq_append_getElem h, List.all_append, List.getD_eq_getElem?_getD, List.getElem?_eq_getElem h]
  simp

theorem all_false_at {α : Type} (p : α → Bool) (d : α) (l : List α) (k : Nat) (h : k < l.length) (hp : p (l.getD k d) = false) : l.all p = false := by
  rw [List.all_eq_false]
  refine ⟨l.getD k d, ?_, by rw [hp]; simp⟩
  rw [List.getD_eq_getElem?_getD, List.getElem?_eq_getElem h]
  exact List.getElem_mem _

set_option maxHeartbeats 400000 in
theorem l32Texts_any (A : Option Addr) (n c lo hi : Nat) (most : Int) (xs : List ByteArray) (w : World) (ha : StrR w lo hi A n xs) (hn : n ≤ 1048576) (hm : 0 ≤ most) (hm2 : most ≤ 1000) (hb : ∀ x ∈ xs, x.size ≤ 1048576) :
    Calls Tryz.prog 138 #[.slice A n c, .int .i64 most] w fun e w' => e = .returned (.bool (textsB most.toNat xs)) ∧ w = w' := by
  have hl := ha.1
  by_cases hfit : (n : Int) ≤ most
  · have hd : ¬ (most < (n : Int)) := by omega
    go_enter Tryz.func138, Tryz.ntmps138
    have HL := Lib.hid hl; clear hl
    go_wp2
    go_loop [5] (fun i => ∃ k : Nat, k ≤ n ∧ i = .int .i64 k ∧ (xs.take k).all shortB = true) (fun i => n - (intOf i).toNat)
    case atStart => exact ⟨0, Nat.zero_le _, rfl, rfl⟩
    case round =>
      obtain ⟨k, hk, rfl, ht⟩ := hrel
      have HT := Lib.hid ht; clear ht
      by_cases hlt : k < n
      · obtain ⟨b, off, rfl, _, _, hcell⟩ := ha.at_ hlt
        have hkl : k < xs.length := by rw [HL.out]; exact hlt
        have hx : (xs.getD k ByteArray.empty).size ≤ 1048576 := by
          rw [List.getD_eq_getElem?_getD, List.getElem?_eq_getElem hkl]
          exact hb _ (List.getElem_mem _)
        have HS := Lib.hid (all_take_succ shortB ByteArray.empty xs k hkl)
        have HF := Lib.hid (all_false_at shortB ByteArray.empty xs k hkl)
        generalize xs.getD k ByteArray.empty = X at *
        clear hb ha
        by_cases hs : X.size ≤ 64
        · have HB := Lib.hid (show shortB X = true by simp [shortB, hs])
          go_wp2
          go_round
          case rel => exact ⟨k + 1, by omega, by go_num, by rw [HS.out, HT.out, HB.out]; rfl⟩
          case measure => simp [intOf]; omega
        · have HB := Lib.hid (show shortB X = false by simp [shortB]; omega)
          go_wp2
          go_ret
          refine ⟨?_, rfl⟩
          unfold textsB
          rw [HF.out HB.out, Bool.and_false]
          rfl
      · go_wp2
        go_ret
        obtain rfl : k = n := by omega
        refine ⟨?_, rfl⟩
        have h1 := HT.out
        rw [List.take_of_length_le (by rw [HL.out]; omega)] at h1
        unfold textsB
        rw [h1, HL.out, decide_eq_true (by omega)]
        rfl
  · have hd : most < (n : Int) := by omega
    go_enter Tryz.func138, Tryz.ntmps138
    go_wp2
    go_ret
    refine ⟨?_, rfl⟩
    unfold textsB
    rw [hl, decide_eq_false (by omega)]
    rfl

set_option maxHeartbeats 400000 in
theorem l27Input_any (A : Option Addr) (n c lo hi : Nat) (xs : List ByteArray) (w : World) (ha : StrR w lo hi A n xs) (hn : n ≤ 1048576) (hb : ∀ x ∈ xs, x.size ≤ 1048576) :
    Calls Tryz.prog 139 #[.slice A n c] w fun e w' => e = .returned (.bool (textsB 8 xs)) ∧ w = w' := by
  have hl := ha.1
  by_cases hfit : n ≤ 8
  · go_enter Tryz.func139, Tryz.ntmps139
    have HL := Lib.hid hl; clear hl
    have hdd : decide (8 < (n : Int)) = false := by simp; omega
    go_wp2
    go_loop [3] (fun i => ∃ k : Nat, k ≤ n ∧ i = .int .i64 k ∧ (xs.take k).all shortB = true) (fun i => n - (intOf i).toNat)
    case atStart => exact ⟨0, Nat.zero_le _, rfl, rfl⟩
    case round =>
      obtain ⟨k, hk, rfl, ht⟩ := hrel
      have HT := Lib.hid ht; clear ht
      by_cases hlt : k < n
      · obtain ⟨b, off, rfl, _, _, hcell⟩ := ha.at_ hlt
        have hkl : k < xs.length := by rw [HL.out]; exact hlt
        have hx : (xs.getD k ByteArray.empty).size ≤ 1048576 := by
          rw [List.getD_eq_getElem?_getD, List.getElem?_eq_getElem hkl]
          exact hb _ (List.getElem_mem _)
        have HS := Lib.hid (all_take_succ shortB ByteArray.empty xs k hkl)
        have HF := Lib.hid (all_false_at shortB ByteArray.empty xs k hkl)
        generalize xs.getD k ByteArray.empty = X at *
        clear hb ha
        by_cases hs : X.size ≤ 64
        · have HB := Lib.hid (show shortB X = true by simp [shortB, hs])
          go_wp2
          go_round
          case rel => exact ⟨k + 1, by omega, by go_num, by rw [HS.out, HT.out, HB.out]; rfl⟩
          case measure => simp [intOf]; omega
        · have HB := Lib.hid (show shortB X = false by simp [shortB]; omega)
          go_wp2
          go_ret
          refine ⟨?_, rfl⟩
          unfold textsB
          rw [HF.out HB.out, Bool.and_false]
          rfl
      · go_wp2
        go_ret
        obtain rfl : k = n := by omega
        refine ⟨?_, rfl⟩
        have h1 := HT.out
        rw [List.take_of_length_le (by rw [HL.out]; omega)] at h1
        unfold textsB
        rw [h1, HL.out, decide_eq_true (by omega)]
        rfl
  · have hB : textsB 8 xs = false := by unfold textsB; rw [hl, decide_eq_false hfit]; rfl
    rw [hB]; clear hB
    go_enter Tryz.func139, Tryz.ntmps139
    go_wp2
    go_ret
    exact ⟨rfl, rfl⟩

theorem long_pays (w : World) : PredAt Tryz.prog 193 #[] Value.string (fun x : ByteArray => decide (64 < x.size)) w := by
  intro W x hb
  unfold FnGives
  by_cases h : 64 < x.size
  · go_enter Tryz.func193, Tryz.ntmps193
    go_wp2
    go_ret
    exact ⟨by simp [h]; omega, 0, rfl⟩
  · go_enter Tryz.func193, Tryz.ntmps193
    go_wp2
    go_ret
    exact ⟨by simp [h]; omega, 0, rfl⟩

theorem any_long (xs : List ByteArray) : (xs.any fun x => decide (64 < x.size)) = !xs.all shortB := by
  induction xs with
  | nil => rfl
  | cons x xs ih =>
    simp only [List.any_cons, List.all_cons, ih, Bool.not_and]
    congr 1
    unfold shortB
    rw [Bool.eq_iff_iff]
    simp

set_option maxHeartbeats 400000 in
theorem long_any (A : Option Addr) (n c lo hi : Nat) (xs : List ByteArray) (w : World) (ha : StrR w lo hi A n xs) (hn : n ≤ 1048576) :
    Calls Tryz.prog 145 #[.slice A n c] w fun e w' => e = .returned (.bool (!xs.all shortB)) ∧ ∃ q, w' = w.drewN q := by
  have hl := ha.1
  subst hl
  by_cases h0 : 0 < xs.length
  · obtain ⟨b, off, rfl, _, _, hc⟩ := ha.2 h0
    have HC := Lib.hid (fun (W : World) (hW : ∀ j, j < xs.length → W.cell? ⟨b, off + j, none⟩ = some (Value.string (xs.getD j ByteArray.empty))) =>
      Tryz.slices_ContainsFunc Value.string (fun x : ByteArray => decide (64 < x.size)) 193 #[] (enters_of Tryz.func193 (by kernel_rfl) rfl) b off xs.length c xs W (long_pays W) (Nat.le_refl _) (by omega)
        (fun j hj => by rw [hW j hj, List.getD_eq_getElem?_getD, List.getElem?_eq_getElem hj]; simp [hj]))
    clear ha
    have HH := Lib.hid hc; clear hc
    go_enter Tryz.func145, Tryz.ntmps145
    go_wp2_with fail
    refine (HC.out _ HH.out).mono ?_
    rintro e w1 ⟨rfl, q, rfl⟩
    go_wp2
    go_ret
    refine ⟨?_, q, rfl⟩
    rw [← any_long]
    rfl
  · have hx : xs = [] := List.eq_nil_of_length_eq_zero (by omega)
    subst hx
    have HC := Lib.hid (Tryz.slices_ContainsFunc_empty (α := ByteArray) A c (.func (.func 193) #[] #[]) w)
    clear ha h0
    go_enter Tryz.func145, Tryz.ntmps145
    go_wp2_with fail
    refine HC.out.mono ?_
    rintro e w1 ⟨rfl, rfl⟩
    go_wp2
    go_ret
    exact ⟨rfl, 0, rfl⟩

set_option maxHeartbeats 400000 in
theorem inputListOk_any (A : Option Addr) (n c lo hi : Nat) (xs : List ByteArray) (w : World) (ha : StrR w lo hi A n xs) (hn : n ≤ 1048576) :
    Calls Tryz.prog 146 #[.slice A n c] w fun e w' => e = .returned (.bool (textsB 8 xs)) ∧ ∃ q, w' = w.drewN q := by
  have hl := ha.1
  by_cases hfit : n ≤ 8
  · have hB : textsB 8 xs = xs.all shortB := by unfold textsB; rw [hl, decide_eq_true hfit]; rfl
    rw [hB]; clear hB hl
    cases hal : xs.all shortB
    all_goals
      go_enter Tryz.func146, Tryz.ntmps146
      go_wp2_with fail
      refine (long_any A n c lo hi xs _ ha hn).mono ?_
      rintro e w1 ⟨rfl, q, rfl⟩
      go_wp2_with fail
      go_ret
      exact ⟨rfl, q, rfl⟩
  · have hB : textsB 8 xs = false := by unfold textsB; rw [hl, decide_eq_false hfit]; rfl
    rw [hB]; clear hB hl
    go_enter Tryz.func146, Tryz.ntmps146
    go_wp2_with fail
    go_ret
    refine ⟨?_, 0, rfl⟩
    simp
    try omega

/-- The first k numbers rise. -/
def riseTo (l : List Int) (k : Nat) : Bool := (List.range (k - 1)).all fun j => decide (l.getD j 0 < l.getD (j + 1) 0)
def keepB (l : List Int) : Bool := decide (l.length ≤ 400) && riseTo l l.length && decide (l.length = 0 ∨ 0 ≤ l.getD 0 0)

theorem riseTo_succ (l : List Int) (k : Nat) : riseTo l (k + 2) = (riseTo l (k + 1) && decide (l.getD k 0 < l.getD (k + 1) 0)) := by
  unfold riseTo
  rw [show k + 2 - 1 = k + 1 by omega, show k + 1 - 1 = k by omega, List.range_succ, List.all_append]
  simp

theorem riseTo_false {l : List Int} {k n : Nat} (hk : k + 1 < n) (h : ¬ l.getD k 0 < l.getD (k + 1) 0) : riseTo l n = false := by
  unfold riseTo
  rw [List.all_eq_false]
  exact ⟨k, by simp; omega, by simpa using h⟩

set_option maxHeartbeats 400000 in
theorem rising_any (A : Option Addr) (n c lo hi : Nat) (xs : List Int) (w : World) (ha : IntR w lo hi A n xs) (hn : n ≤ 1048576) :
    Calls Tryz.prog 194 #[.slice A n c] w fun e w' => e = .returned (.bool (riseTo xs n)) ∧ ∃ q, w' = w.drewN q := by
  go_enter Tryz.func194, Tryz.ntmps194
  go_wp2
  go_loopw [3] (fun i wr => ∃ k q : Nat, (k + 1 ≤ n ∨ k = 0) ∧ i = .int .i64 (k + 1 : Nat) ∧ riseTo xs (k + 1) = true ∧ wr = w.drewN q) (fun i _ => n - (intOf i).toNat)
  case atStart => exact ⟨0, 0, .inr rfl, rfl, rfl, rfl⟩
  case round =>
    obtain ⟨k, q, hk, rfl, ht, rfl⟩ := hrel
    have HT := Lib.hid ht; clear ht
    by_cases hlt : k + 1 < n
    · obtain ⟨b, off, rfl, _, _, hc1⟩ := ha.at_ hlt
      obtain ⟨b', off', e, _, _, hc0⟩ := ha.at_ (show k < n by omega)
      injection e with e
      injection e with e1 e2
      subst e1 e2
      have HS := Lib.hid (riseTo_succ xs k)
      have HF := Lib.hid (fun h => riseTo_false (l := xs) (k := k) (n := n) hlt h)
      have hi1 : ((k + 1 : Nat) : Int) < (n : Int) := by omega
      have hi0 : ((k + 1 : Nat) : Int) - 1 < (n : Int) := by omega
      generalize xs.getD k 0 = X at *
      generalize xs.getD (k + 1) 0 = Y at *
      have w1 : IntKind.i64.wrap (((k + 1 : Nat) : Int) - 1) = (k : Int) := by rw [IntWalk.i64_in _ (by omega)]; omega
      by_cases hxy : X < Y
      · have HX := Lib.hid hxy
        go_wp2
        go_quiet (fail)
        clear w1
        go_wp2
        go_roundw
        case rel => exact ⟨k + 1, _, .inl (by omega), by go_num, by rw [HS.out, HT.out, decide_eq_true HX.out]; rfl, rfl⟩
        case measure => simp [intOf]; omega
      · go_wp2
        go_quiet (fail)
        clear w1
        go_wp2
        go_ret
        refine ⟨?_, _, by rw [World.drewN_drewN]⟩
        rw [HF.out (by omega)]
        rfl
    · go_wp2
      go_ret
      refine ⟨?_, q, rfl⟩
      have : riseTo xs n = true := by
        rcases hk with hk | hk
        · obtain rfl : n = k + 1 := by omega
          exact HT.out
        · subst hk
          have h1 : n = 0 ∨ n = 1 := by omega
          rcases h1 with rfl | rfl <;> rfl
      rw [this]
      rfl

set_option maxHeartbeats 1000000 in
theorem keepOk_any (A : Option Addr) (n c lo hi : Nat) (xs : List Int) (w : World) (ha : IntR w lo hi A n xs) (hn : n ≤ 1048576) :
    Calls Tryz.prog 149 #[.slice A n c] w fun e w' => e = .returned (.bool (keepB xs)) ∧ ∃ q, w' = w.drewN q := by
  have hl := ha.1
  subst hl
  by_cases h4 : xs.length ≤ 400
  · cases hr : riseTo xs xs.length
    · have hB : keepB xs = false := by unfold keepB; rw [hr]; simp
      rw [hB]; clear hB
      go_enter Tryz.func149, Tryz.ntmps149
      go_wp2_with fail
      refine (rising_any A _ c lo hi xs _ ha hn).mono ?_
      rintro e w1 ⟨rfl, q, rfl⟩
      go_wp2_with fail
      go_ret
      exact ⟨rfl, q, rfl⟩
    · by_cases h0 : xs.length = 0
      · have hB : keepB xs = true := by unfold keepB; rw [hr]; simp [h0]
        rw [hB]; clear hB
        have hz : ((xs.length : Int) == 0) = true := by rw [beq_iff_eq]; omega
        have H0 := Lib.hid h0; clear h0
        go_enter Tryz.func149, Tryz.ntmps149
        go_wp2_with fail
        refine (rising_any A _ c lo hi xs _ ha hn).mono ?_
        rintro e w1 ⟨rfl, q, rfl⟩
        go_wp2_with fail
        go_ret
        exact ⟨rfl, q, rfl⟩
      · have hz : ((xs.length : Int) == 0) = false := by rw [beq_eq_false_iff_ne]; omega
        obtain ⟨b, off, rfl, _, _, hc⟩ := ha.at_ (show 0 < xs.length by omega)
        have hB : keepB xs = decide (0 ≤ xs.getD 0 0) := by unfold keepB; rw [hr, decide_eq_true h4]; simp [h0]
        rw [hB]; clear hB
        have HA := Lib.hid ha; clear ha
        rw [Nat.add_zero] at hc
        have hp0 : (0 : Int) < (xs.length : Int) := by omega
        generalize xs.getD 0 0 = X at *
        by_cases hX : 0 ≤ X
        all_goals
          go_enter Tryz.func149, Tryz.ntmps149
          go_wp2_with fail
          refine (rising_any _ _ c lo hi xs _ HA.out hn).mono ?_
          rintro e w1 ⟨rfl, q, rfl⟩
          go_wp2_with fail
          go_ret
          exact ⟨by simp [hX], q, rfl⟩
  · have hB : keepB xs = false := by unfold keepB; rw [decide_eq_false h4]; simp
    rw [hB]; clear hB
    go_enter Tryz.func149, Tryz.ntmps149
    go_wp2_with fail
    go_ret
    refine ⟨?_, 0, rfl⟩
    simp
    try omega

set_option maxHeartbeats 2000000 in
set_option maxRecDepth 100000 in
theorem l32Keep_any (A : Option Addr) (n c lo hi : Nat) (xs : List Int) (w : World) (ha : IntR w lo hi A n xs) (hn : n ≤ 1048576) :
    Calls Tryz.prog 141 #[.slice A n c] w fun e w' => e = .returned (.bool (keepB xs)) ∧ ∃ q, w' = w.drewN q := by
  have hl := ha.1
  have HL := Lib.hid hl; clear hl
  go_enter Tryz.func141, Tryz.ntmps141
  go_wp2
  go_loopw [3] (fun i wr => ∃ k q : Nat, k ≤ n ∧ k ≤ 401 ∧ i = .int .i64 k ∧ riseTo xs k = true ∧ (k = 0 ∨ (0 ≤ xs.getD 0 0 ∧ 0 ≤ xs.getD (k - 1) 0)) ∧ wr = w.drewN q) (fun i _ => n - (intOf i).toNat)
  case atStart => exact ⟨0, 0, Nat.zero_le _, by omega, rfl, rfl, .inl rfl, rfl⟩
  case round =>
    obtain ⟨k, q, hk, hk4, rfl, ht, hp, rfl⟩ := hrel
    have HT := Lib.hid ht; have HP := Lib.hid hp; clear ht hp
    by_cases hlt : k < n
    · by_cases h401 : k ≤ 400
      · obtain ⟨b, off, rfl, _, _, hc⟩ := ha.at_ hlt
        have hi1 : (k : Int) < (n : Int) := by omega
        by_cases h0 : k = 0
        · subst h0
          rw [Nat.add_zero] at hc
          have hi0 : (0 : Int) < (n : Int) := by omega
          have HX := Lib.hid (show ∀ x, xs.getD 0 0 = x → 0 ≤ x → riseTo xs (0 + 1) = true ∧ (0 ≤ xs.getD 0 0 ∧ 0 ≤ xs.getD (0 + 1 - 1) 0) from fun x hx h => ⟨rfl, by rw [hx]; exact h, by rw [show 0 + 1 - 1 = 0 from rfl, hx]; exact h⟩)
          have HN := Lib.hid (show ∀ x, xs.getD 0 0 = x → x < 0 → keepB xs = false from fun x hx h => by
            unfold keepB
            rw [hx, decide_eq_false (p := _ ∨ _) (by rw [HL.out]; omega)]
            simp)
          generalize hXe : xs.getD 0 0 = X at *
          have HXe := Lib.hid hXe; clear hXe
          by_cases hneg : X < 0
          · have hd : decide (X < 0) = true := by simpa using hneg
            go_wp2
            go_quiet (fail)
            go_wp2
            go_ret
            refine ⟨?_, _, by rw [World.drewN_drewN]⟩
            rw [HN.out _ rfl hneg]
            rfl
          · have hd : decide (X < 0) = false := by simpa using hneg
            have hd0 : decide (0 < ((0 : Nat) : Int)) = false := by decide
            have hdz : decide ((0 : Int) < 0) = false := by decide
            go_wp2
            go_quiet (fail)
            go_wp2
            go_roundw
            case rel => exact ⟨0 + 1, _, by omega, by omega, by go_num, (HX.out _ rfl (by omega)).1, .inr (by rw [HXe.out] at *; exact (HX.out _ rfl (by omega)).2), rfl⟩
            case measure => simp [intOf]; omega
        · obtain ⟨j, rfl⟩ : ∃ j, k = j + 1 := ⟨k - 1, by omega⟩
          obtain ⟨b', off', e, _, _, hc0⟩ := ha.at_ (show j < n by omega)
          injection e with e
          injection e with e1 e2
          subst e1 e2
          have hi0 : ((j + 1 : Nat) : Int) - 1 < (n : Int) := by omega
          have w1 : IntKind.i64.wrap (((j + 1 : Nat) : Int) - 1) = (j : Int) := by rw [IntWalk.i64_in _ (by omega)]; omega
          have hgt : decide (0 < ((j + 1 : Nat) : Int)) = true := by rw [decide_eq_true_iff]; omega
          have hgt2 : decide (0 < (j : Int) + 1) = true := by rw [decide_eq_true_iff]; omega
          have hp1 : 0 ≤ xs.getD 0 0 ∧ 0 ≤ xs.getD j 0 := by
            rcases HP.out with h | h
            · omega
            · exact h
          have HF := Lib.hid (show ¬ xs.getD j 0 < xs.getD (j + 1) 0 → keepB xs = false from fun h => by
            unfold keepB
            rw [riseTo_false (l := xs) (k := j) (n := xs.length) (by rw [HL.out]; omega) h]
            simp)
          have HS := Lib.hid (riseTo_succ xs j)
          have HP0 := Lib.hid hp1.1
          have hX0 := hp1.2
          have HE := Lib.hid (show xs.getD (j + 1 + 1 - 1) 0 = xs.getD (j + 1) 0 from rfl)
          clear hp1 HP ha
          generalize xs.getD j 0 = X at *
          generalize xs.getD (j + 1) 0 = Y at *
          by_cases hneg : Y < 0
          · have hd : decide (Y < 0) = true := by simpa using hneg
            go_wp2
            go_quiet (fail)
            clear w1
            go_wp2
            go_ret
            refine ⟨?_, _, by rw [World.drewN_drewN]⟩
            rw [HF.out (by omega)]
            rfl
          · have hd : decide (Y < 0) = false := by simpa using hneg
            by_cases hxy : X < Y
            · have HX := Lib.hid hxy
              have hd2 : decide (Y ≤ X) = false := by simpa using hxy
              go_wp2
              go_quiet (fail)
              clear w1
              go_wp2
              go_roundw
              case rel => exact ⟨j + 1 + 1, _, by omega, by omega, by go_num, by rw [HS.out, HT.out, decide_eq_true HX.out]; rfl, .inr ⟨HP0.out, by rw [HE.out]; omega⟩, rfl⟩
              case measure => simp [intOf]; omega
            · have hd2 : decide (Y ≤ X) = true := by simpa using hxy
              go_wp2
              go_quiet (fail)
              clear w1
              go_wp2
              go_ret
              refine ⟨?_, _, by rw [World.drewN_drewN]⟩
              rw [HF.out (by omega)]
              rfl
      · have HB := Lib.hid (show keepB xs = false by unfold keepB; rw [HL.out, decide_eq_false (by omega)]; rfl)
        go_wp2
        go_ret
        refine ⟨?_, q, rfl⟩
        rw [HB.out]
        simp
        try omega
    · obtain rfl : k = n := by omega
      by_cases h4 : k ≤ 400
      · have HB := Lib.hid (show keepB xs = true by
          unfold keepB
          rw [HL.out, HT.out, decide_eq_true h4, decide_eq_true (p := _ ∨ _) (by rcases HP.out with h | h; exact .inl h; exact .inr h.1)]
          rfl)
        go_wp2
        go_ret
        refine ⟨?_, q, rfl⟩
        rw [HB.out]
        simp
        try omega
      · have HB := Lib.hid (show keepB xs = false by unfold keepB; rw [HL.out, decide_eq_false h4]; rfl)
        go_wp2
        go_ret
        refine ⟨?_, q, rfl⟩
        rw [HB.out]
        simp
        try omega

end Go.Proofs.YtcjaaknnfohllaaGreatDoor

/- Both SiteActOk compute one plain function. -/
namespace Go.Proofs.YtcjaaknnfohllaaGreatDoor
open Go.RowKit

/-- What SiteActOk says. -/
def actB (x : Act) : Bool :=
  if x.k = 1 then decide (x.keep.length = 0) && decide (x.a = 0) && nameB x.r && nameB x.l && textsB 5 x.args && textsB 8 x.input
  else if x.r.size ≠ 0 ∨ x.l.size ≠ 0 ∨ x.args.length ≠ 0 ∨ x.input.length ≠ 0 then false
  else if x.k ≠ 7 ∧ x.keep.length ≠ 0 then false
  else if x.k = 2 then inB x.a 1 4
  else if x.k = 3 ∨ x.k = 4 ∨ x.k = 6 then decide (x.a = 0)
  else if x.k = 5 then inB x.a 0 64
  else if x.k = 7 then inB x.a (-1) 1700 && keepB x.keep
  else false

theorem isEmpty_size {x : ByteArray} : x.toList.isEmpty = decide (x.size = 0) := by
  rw [ByteArray.toList_eq]
  cases x with | mk a => cases a with | mk l => cases l <;> simp [ByteArray.size]
theorem isEmpty_true {x : ByteArray} (h : x.size = 0) : x.toList.isEmpty = true := by rw [isEmpty_size]; simp [h]
theorem isEmpty_false {x : ByteArray} (h : x.size ≠ 0) : x.toList.isEmpty = false := by rw [isEmpty_size]; simp [h]

set_option maxHeartbeats 8000000 in
set_option maxRecDepth 100000 in
theorem specSiteActOk_any (x : Act) (v : Value) (lo hi : Nat) (w : World) (hx : ActR w lo hi v x) (hhi : hi ≤ w.heap.size) (hs : ActSmall x) :
    Calls Tryz.prog 77 #[v] w fun e w' => e = .returned (.bool (actB x)) ∧ Below w.heap.size w w' := by
  obtain ⟨k, a, r, l, xargs, xin, xkeep⟩ := x
  obtain ⟨A, c, B, d, C, e, rfl, hA, hB, hC⟩ := hx
  obtain ⟨hs1, hs2, hs3, hs4, hs5, hs6, hs7⟩ := hs
  dsimp only at *
  have hbo := fun o => (Below.refl w.heap.size w).alloc (Nat.le_refl _) o
  have hbo2 := fun o o' => ((Below.refl w.heap.size w).alloc (Nat.le_refl _) o).alloc (by simp) o'
  have HA := Lib.hid (fun o => hA.below (hbo o) hhi)
  have HB := Lib.hid (fun o => hB.below (hbo o) hhi)
  have HBq := Lib.hid (fun o q => (hB.below (hbo o) hhi).drewN q)
  have HC := Lib.hid (fun o => hC.below (hbo o) hhi)
  have HC2 := Lib.hid (fun o o' => hC.below (hbo2 o o') hhi)
  have HD := Lib.hid hbo
  have HD2 := Lib.hid hbo2
  have HDq := Lib.hid (fun o q => (hbo o).trans ((below_drewN' (w.alloc o) q).mono (by simp)))
  have HDqq := Lib.hid (fun o q q' => ((hbo o).trans ((below_drewN' (w.alloc o) q).mono (by simp))).trans ((below_drewN' ((w.alloc o).drewN q) q').mono (by show w.heap.size ≤ (w.alloc o).heap.size; simp)))
  have HD2q := Lib.hid (fun o o' q => (hbo2 o o').trans ((below_drewN' ((w.alloc o).alloc o') q).mono (by simp; omega)))
  have HSA := Lib.hid hs6
  have HSI := Lib.hid hs7
  clear hA hB hC hbo hbo2 hs6 hs7
  by_cases hk : k = 1
  · subst hk
    have hc : (xkeep.length ≠ 0) ∨ (xkeep.length = 0 ∧ a ≠ 0) ∨ (xkeep.length = 0 ∧ a = 0 ∧ nameB r = false) ∨ (xkeep.length = 0 ∧ a = 0 ∧ nameB r = true ∧ nameB l = false) ∨
        (xkeep.length = 0 ∧ a = 0 ∧ nameB r = true ∧ nameB l = true ∧ textsB 5 xargs = false) ∨ (xkeep.length = 0 ∧ a = 0 ∧ nameB r = true ∧ nameB l = true ∧ textsB 5 xargs = true ∧ True) := by
      by_cases q1 : xkeep.length = 0 <;> by_cases q2 : a = 0 <;> cases nameB r <;> cases nameB l <;> cases textsB 5 xargs <;> simp [q1, q2]
    have HV := Lib.hid (show actB ⟨1, a, r, l, xargs, xin, xkeep⟩ = (decide (xkeep.length = 0) && decide (a = 0) && nameB r && nameB l && textsB 5 xargs && textsB 8 xin) from rfl)
    rw [HV.out]
    rcases hc with hc | ⟨hc, hc2⟩ | ⟨hc, hc2, hc3⟩ | ⟨hc, hc2, hc3, hc4⟩ | ⟨hc, hc2, hc3, hc4, hc5⟩ | ⟨hc, hc2, hc3, hc4, hc5, _⟩
    · have hz : decide (0 < xkeep.length) = true := decide_eq_true (by omega)
      have hzp : 0 < xkeep.length := by omega
      have hz2 : ((xkeep.length : Int) == 0) = false := by rw [beq_eq_false_iff_ne]; omega
      rw [decide_eq_false hc, Bool.false_and, Bool.false_and, Bool.false_and, Bool.false_and, Bool.false_and]
      by_cases ha : (a == 0) = true
      all_goals
        try simp only [Bool.not_eq_true] at ha
        go_enter Tryz.func77, Tryz.ntmps77
        go_wp2_with (first | (go_at_call 137; refine (specNameOk_any _ _ (by omega)).mono ?_; rintro e w' ⟨rfl, rfl⟩) | (go_at_call 138; refine (l32Texts_any _ _ _ lo hi 5 xargs _ (HA.out _) (by omega) (by omega) (by omega) HSA.out).mono ?_; rintro e w' ⟨rfl, rfl⟩) | (go_at_call 139; refine (l27Input_any _ _ _ lo hi xin _ (HB.out _) (by omega) HSI.out).mono ?_; rintro e w' ⟨rfl, rfl⟩) | (go_at_call 78; refine (l00In_any _ _ _ _).mono ?_; rintro e w' ⟨rfl, rfl⟩) | (go_at_call 141; refine (l32Keep_any _ _ _ lo hi xkeep _ (HC.out _) (by omega)).mono ?_; rintro e w' ⟨rfl, q, rfl⟩) | go_in)
        go_ret
        refine ⟨?_, ?_⟩
        · first | rfl | (simp; done) | (refine congrArg (fun b => Ending.returned (.bool b)) ?_; rw [Bool.eq_iff_iff]; simp; done)
        · first | exact HD.out _ | exact HDq.out _ _ | exact HD2.out _ _ | exact HD2q.out _ _ _ | exact HDqq.out _ _ _
    all_goals
      have hz : decide (0 < xkeep.length) = false := decide_eq_false (by omega)
      have hzp : xkeep.length ≤ 0 := by omega
      have hz2 : ((xkeep.length : Int) == 0) = true := by rw [beq_iff_eq]; omega
      rw [decide_eq_true hc, Bool.true_and]
      have HC0 := Lib.hid hc; clear hc
    · have ha : (a == 0) = false := by rw [beq_eq_false_iff_ne]; exact hc2
      rw [decide_eq_false hc2, Bool.false_and, Bool.false_and, Bool.false_and, Bool.false_and]
      clear hc2
      go_enter Tryz.func77, Tryz.ntmps77
      go_wp2_with (first | (go_at_call 137; refine (specNameOk_any _ _ (by omega)).mono ?_; rintro e w' ⟨rfl, rfl⟩) | (go_at_call 138; refine (l32Texts_any _ _ _ lo hi 5 xargs _ (HA.out _) (by omega) (by omega) (by omega) HSA.out).mono ?_; rintro e w' ⟨rfl, rfl⟩) | (go_at_call 139; refine (l27Input_any _ _ _ lo hi xin _ (HB.out _) (by omega) HSI.out).mono ?_; rintro e w' ⟨rfl, rfl⟩) | (go_at_call 78; refine (l00In_any _ _ _ _).mono ?_; rintro e w' ⟨rfl, rfl⟩) | (go_at_call 141; refine (l32Keep_any _ _ _ lo hi xkeep _ (HC.out _) (by omega)).mono ?_; rintro e w' ⟨rfl, q, rfl⟩) | go_in)
      go_ret
      refine ⟨?_, ?_⟩
      · first | rfl | (simp; done) | (refine congrArg (fun b => Ending.returned (.bool b)) ?_; rw [Bool.eq_iff_iff]; simp; done)
      · first | exact HD.out _ | exact HDq.out _ _ | exact HD2.out _ _ | exact HD2q.out _ _ _ | exact HDqq.out _ _ _
    all_goals
      have ha : (a == 0) = true := by rw [beq_iff_eq]; exact hc2
      rw [decide_eq_true hc2, Bool.true_and]
      clear hc2
    · rw [hc3, Bool.false_and, Bool.false_and, Bool.false_and]
      go_enter Tryz.func77, Tryz.ntmps77
      go_wp2_with (first | (go_at_call 137; refine (specNameOk_any _ _ (by omega)).mono ?_; rintro e w' ⟨rfl, rfl⟩) | (go_at_call 138; refine (l32Texts_any _ _ _ lo hi 5 xargs _ (HA.out _) (by omega) (by omega) (by omega) HSA.out).mono ?_; rintro e w' ⟨rfl, rfl⟩) | (go_at_call 139; refine (l27Input_any _ _ _ lo hi xin _ (HB.out _) (by omega) HSI.out).mono ?_; rintro e w' ⟨rfl, rfl⟩) | (go_at_call 78; refine (l00In_any _ _ _ _).mono ?_; rintro e w' ⟨rfl, rfl⟩) | (go_at_call 141; refine (l32Keep_any _ _ _ lo hi xkeep _ (HC.out _) (by omega)).mono ?_; rintro e w' ⟨rfl, q, rfl⟩) | go_in)
      go_ret
      refine ⟨?_, ?_⟩
      · first | rfl | (simp; done) | (refine congrArg (fun b => Ending.returned (.bool b)) ?_; rw [Bool.eq_iff_iff]; simp; done)
      · first | exact HD.out _ | exact HDq.out _ _ | exact HD2.out _ _ | exact HD2q.out _ _ _ | exact HDqq.out _ _ _
    · rw [hc3, hc4, Bool.true_and, Bool.false_and, Bool.false_and]
      go_enter Tryz.func77, Tryz.ntmps77
      go_wp2_with (first | (go_at_call 137; refine (specNameOk_any _ _ (by omega)).mono ?_; rintro e w' ⟨rfl, rfl⟩) | (go_at_call 138; refine (l32Texts_any _ _ _ lo hi 5 xargs _ (HA.out _) (by omega) (by omega) (by omega) HSA.out).mono ?_; rintro e w' ⟨rfl, rfl⟩) | (go_at_call 139; refine (l27Input_any _ _ _ lo hi xin _ (HB.out _) (by omega) HSI.out).mono ?_; rintro e w' ⟨rfl, rfl⟩) | (go_at_call 78; refine (l00In_any _ _ _ _).mono ?_; rintro e w' ⟨rfl, rfl⟩) | (go_at_call 141; refine (l32Keep_any _ _ _ lo hi xkeep _ (HC.out _) (by omega)).mono ?_; rintro e w' ⟨rfl, q, rfl⟩) | go_in)
      go_ret
      refine ⟨?_, ?_⟩
      · first | rfl | (simp; done) | (refine congrArg (fun b => Ending.returned (.bool b)) ?_; rw [Bool.eq_iff_iff]; simp; done)
      · first | exact HD.out _ | exact HDq.out _ _ | exact HD2.out _ _ | exact HD2q.out _ _ _ | exact HDqq.out _ _ _
    · rw [hc3, hc4, hc5, Bool.true_and, Bool.true_and, Bool.false_and]
      go_enter Tryz.func77, Tryz.ntmps77
      go_wp2_with (first | (go_at_call 137; refine (specNameOk_any _ _ (by omega)).mono ?_; rintro e w' ⟨rfl, rfl⟩) | (go_at_call 138; refine (l32Texts_any _ _ _ lo hi 5 xargs _ (HA.out _) (by omega) (by omega) (by omega) HSA.out).mono ?_; rintro e w' ⟨rfl, rfl⟩) | (go_at_call 139; refine (l27Input_any _ _ _ lo hi xin _ (HB.out _) (by omega) HSI.out).mono ?_; rintro e w' ⟨rfl, rfl⟩) | (go_at_call 78; refine (l00In_any _ _ _ _).mono ?_; rintro e w' ⟨rfl, rfl⟩) | (go_at_call 141; refine (l32Keep_any _ _ _ lo hi xkeep _ (HC.out _) (by omega)).mono ?_; rintro e w' ⟨rfl, q, rfl⟩) | go_in)
      go_ret
      refine ⟨?_, ?_⟩
      · first | rfl | (simp; done) | (refine congrArg (fun b => Ending.returned (.bool b)) ?_; rw [Bool.eq_iff_iff]; simp; done)
      · first | exact HD.out _ | exact HDq.out _ _ | exact HD2.out _ _ | exact HD2q.out _ _ _ | exact HDqq.out _ _ _
    · rw [hc3, hc4, hc5, Bool.true_and, Bool.true_and, Bool.true_and]
      go_enter Tryz.func77, Tryz.ntmps77
      go_wp2_with (first | (go_at_call 137; refine (specNameOk_any _ _ (by omega)).mono ?_; rintro e w' ⟨rfl, rfl⟩) | (go_at_call 138; refine (l32Texts_any _ _ _ lo hi 5 xargs _ (HA.out _) (by omega) (by omega) (by omega) HSA.out).mono ?_; rintro e w' ⟨rfl, rfl⟩) | (go_at_call 139; refine (l27Input_any _ _ _ lo hi xin _ (HB.out _) (by omega) HSI.out).mono ?_; rintro e w' ⟨rfl, rfl⟩) | (go_at_call 78; refine (l00In_any _ _ _ _).mono ?_; rintro e w' ⟨rfl, rfl⟩) | (go_at_call 141; refine (l32Keep_any _ _ _ lo hi xkeep _ (HC.out _) (by omega)).mono ?_; rintro e w' ⟨rfl, q, rfl⟩) | go_in)
      go_ret
      refine ⟨?_, ?_⟩
      · first | rfl | (simp; done) | (refine congrArg (fun b => Ending.returned (.bool b)) ?_; rw [Bool.eq_iff_iff]; simp; done)
      · first | exact HD.out _ | exact HDq.out _ _ | exact HD2.out _ _ | exact HD2q.out _ _ _ | exact HDqq.out _ _ _
  · have ek1 : (k == 1) = false := by rw [beq_eq_false_iff_ne]; exact hk
    have nk1 : (k != 1) = true := by rw [bne_iff_ne]; exact hk
    have hc : (r.size ≠ 0) ∨ (r.size = 0 ∧ l.size ≠ 0) ∨ (r.size = 0 ∧ l.size = 0 ∧ xargs.length ≠ 0) ∨ (r.size = 0 ∧ l.size = 0 ∧ xargs.length = 0 ∧ xin.length ≠ 0) ∨
        (r.size = 0 ∧ l.size = 0 ∧ xargs.length = 0 ∧ xin.length = 0 ∧ k ≠ 7 ∧ xkeep.length ≠ 0) ∨ (r.size = 0 ∧ l.size = 0 ∧ xargs.length = 0 ∧ xin.length = 0 ∧ k = 7) ∨
        (r.size = 0 ∧ l.size = 0 ∧ xargs.length = 0 ∧ xin.length = 0 ∧ k ≠ 7 ∧ xkeep.length = 0) := by omega
    rcases hc with q1 | ⟨q1, q2⟩ | ⟨q1, q2, q3⟩ | ⟨q1, q2, q3, q4⟩ | ⟨q1, q2, q3, q4, q5, q6⟩ | ⟨q1, q2, q3, q4, q5⟩ | ⟨q1, q2, q3, q4, q5, q6⟩
    · have HV := Lib.hid (show actB ⟨k, a, r, l, xargs, xin, xkeep⟩ = false by simp [actB, hk, q1])
      rw [HV.out]
      have er := isEmpty_false q1
      have er2 : (!r.toList.isEmpty) = true := by rw [er]; rfl
      go_enter Tryz.func77, Tryz.ntmps77
      go_wp2_with (first | (go_at_call 137; refine (specNameOk_any _ _ (by omega)).mono ?_; rintro e w' ⟨rfl, rfl⟩) | (go_at_call 138; refine (l32Texts_any _ _ _ lo hi 5 xargs _ (HA.out _) (by omega) (by omega) (by omega) HSA.out).mono ?_; rintro e w' ⟨rfl, rfl⟩) | (go_at_call 139; refine (l27Input_any _ _ _ lo hi xin _ (HB.out _) (by omega) HSI.out).mono ?_; rintro e w' ⟨rfl, rfl⟩) | (go_at_call 78; refine (l00In_any _ _ _ _).mono ?_; rintro e w' ⟨rfl, rfl⟩) | (go_at_call 141; refine (l32Keep_any _ _ _ lo hi xkeep _ (HC.out _) (by omega)).mono ?_; rintro e w' ⟨rfl, q, rfl⟩) | go_in)
      go_ret
      refine ⟨?_, ?_⟩
      · first | rfl | (simp; done) | (refine congrArg (fun b => Ending.returned (.bool b)) ?_; rw [Bool.eq_iff_iff]; simp; done)
      · first | exact HD.out _ | exact HDq.out _ _ | exact HD2.out _ _ | exact HD2q.out _ _ _ | exact HDqq.out _ _ _
    · have HV := Lib.hid (show actB ⟨k, a, r, l, xargs, xin, xkeep⟩ = false by simp [actB, hk, q1, q2])
      rw [HV.out]
      have er := isEmpty_true q1
      have er2 : (!r.toList.isEmpty) = false := by rw [er]; rfl
      have el := isEmpty_false q2
      have el2 : (!l.toList.isEmpty) = true := by rw [el]; rfl
      have Q1 := Lib.hid q1; clear q1
      go_enter Tryz.func77, Tryz.ntmps77
      go_wp2_with (first | (go_at_call 137; refine (specNameOk_any _ _ (by omega)).mono ?_; rintro e w' ⟨rfl, rfl⟩) | (go_at_call 138; refine (l32Texts_any _ _ _ lo hi 5 xargs _ (HA.out _) (by omega) (by omega) (by omega) HSA.out).mono ?_; rintro e w' ⟨rfl, rfl⟩) | (go_at_call 139; refine (l27Input_any _ _ _ lo hi xin _ (HB.out _) (by omega) HSI.out).mono ?_; rintro e w' ⟨rfl, rfl⟩) | (go_at_call 78; refine (l00In_any _ _ _ _).mono ?_; rintro e w' ⟨rfl, rfl⟩) | (go_at_call 141; refine (l32Keep_any _ _ _ lo hi xkeep _ (HC.out _) (by omega)).mono ?_; rintro e w' ⟨rfl, q, rfl⟩) | go_in)
      go_ret
      refine ⟨?_, ?_⟩
      · first | rfl | (simp; done) | (refine congrArg (fun b => Ending.returned (.bool b)) ?_; rw [Bool.eq_iff_iff]; simp; done)
      · first | exact HD.out _ | exact HDq.out _ _ | exact HD2.out _ _ | exact HD2q.out _ _ _ | exact HDqq.out _ _ _
    all_goals
      have er := isEmpty_true q1
      have er2 : (!r.toList.isEmpty) = false := by rw [er]; rfl
      have el := isEmpty_true q2
      have el2 : (!l.toList.isEmpty) = false := by rw [el]; rfl
      have Q1 := Lib.hid q1
      have Q2 := Lib.hid q2
      clear q1 q2
    · have HV := Lib.hid (show actB ⟨k, a, r, l, xargs, xin, xkeep⟩ = false by simp [actB, hk, Q1.out, Q2.out, q3])
      rw [HV.out]
      have p3 : 0 < xargs.length := by omega
      have d3 : decide (0 < xargs.length) = true := decide_eq_true p3
      have z3 : ((xargs.length : Int) == 0) = false := by rw [beq_eq_false_iff_ne]; omega
      go_enter Tryz.func77, Tryz.ntmps77
      go_wp2_with (first | (go_at_call 137; refine (specNameOk_any _ _ (by omega)).mono ?_; rintro e w' ⟨rfl, rfl⟩) | (go_at_call 138; refine (l32Texts_any _ _ _ lo hi 5 xargs _ (HA.out _) (by omega) (by omega) (by omega) HSA.out).mono ?_; rintro e w' ⟨rfl, rfl⟩) | (go_at_call 139; refine (l27Input_any _ _ _ lo hi xin _ (HB.out _) (by omega) HSI.out).mono ?_; rintro e w' ⟨rfl, rfl⟩) | (go_at_call 78; refine (l00In_any _ _ _ _).mono ?_; rintro e w' ⟨rfl, rfl⟩) | (go_at_call 141; refine (l32Keep_any _ _ _ lo hi xkeep _ (HC.out _) (by omega)).mono ?_; rintro e w' ⟨rfl, q, rfl⟩) | go_in)
      go_ret
      refine ⟨?_, ?_⟩
      · first | rfl | (simp; done) | (refine congrArg (fun b => Ending.returned (.bool b)) ?_; rw [Bool.eq_iff_iff]; simp; done)
      · first | exact HD.out _ | exact HDq.out _ _ | exact HD2.out _ _ | exact HD2q.out _ _ _ | exact HDqq.out _ _ _
    all_goals
      have p3 : xargs.length ≤ 0 := by omega
      have d3 : decide (0 < xargs.length) = false := decide_eq_false (by omega)
      have z3 : ((xargs.length : Int) == 0) = true := by rw [beq_iff_eq]; omega
      have Q3 := Lib.hid q3
      clear q3
    · have HV := Lib.hid (show actB ⟨k, a, r, l, xargs, xin, xkeep⟩ = false by simp [actB, hk, Q1.out, Q2.out, Q3.out, q4])
      rw [HV.out]
      have p4 : 0 < xin.length := by omega
      have d4 : decide (0 < xin.length) = true := decide_eq_true p4
      have z4 : ((xin.length : Int) == 0) = false := by rw [beq_eq_false_iff_ne]; omega
      go_enter Tryz.func77, Tryz.ntmps77
      go_wp2_with (first | (go_at_call 137; refine (specNameOk_any _ _ (by omega)).mono ?_; rintro e w' ⟨rfl, rfl⟩) | (go_at_call 138; refine (l32Texts_any _ _ _ lo hi 5 xargs _ (HA.out _) (by omega) (by omega) (by omega) HSA.out).mono ?_; rintro e w' ⟨rfl, rfl⟩) | (go_at_call 139; refine (l27Input_any _ _ _ lo hi xin _ (HB.out _) (by omega) HSI.out).mono ?_; rintro e w' ⟨rfl, rfl⟩) | (go_at_call 78; refine (l00In_any _ _ _ _).mono ?_; rintro e w' ⟨rfl, rfl⟩) | (go_at_call 141; refine (l32Keep_any _ _ _ lo hi xkeep _ (HC.out _) (by omega)).mono ?_; rintro e w' ⟨rfl, q, rfl⟩) | go_in)
      go_ret
      refine ⟨?_, ?_⟩
      · first | rfl | (simp; done) | (refine congrArg (fun b => Ending.returned (.bool b)) ?_; rw [Bool.eq_iff_iff]; simp; done)
      · first | exact HD.out _ | exact HDq.out _ _ | exact HD2.out _ _ | exact HD2q.out _ _ _ | exact HDqq.out _ _ _
    all_goals
      have p4 : xin.length ≤ 0 := by omega
      have d4 : decide (0 < xin.length) = false := decide_eq_false (by omega)
      have z4 : ((xin.length : Int) == 0) = true := by rw [beq_iff_eq]; omega
      have Q4 := Lib.hid q4
      clear q4
    · have HV := Lib.hid (show actB ⟨k, a, r, l, xargs, xin, xkeep⟩ = false by simp [actB, hk, Q1.out, Q2.out, Q3.out, Q4.out, q5, q6])
      rw [HV.out]
      have e7 : (k == 7) = false := by rw [beq_eq_false_iff_ne]; exact q5
      have n7 : (k != 7) = true := by rw [bne_iff_ne]; exact q5
      have p5 : 0 < xkeep.length := by omega
      have d5 : decide (0 < xkeep.length) = true := decide_eq_true p5
      go_enter Tryz.func77, Tryz.ntmps77
      go_wp2_with (first | (go_at_call 137; refine (specNameOk_any _ _ (by omega)).mono ?_; rintro e w' ⟨rfl, rfl⟩) | (go_at_call 138; refine (l32Texts_any _ _ _ lo hi 5 xargs _ (HA.out _) (by omega) (by omega) (by omega) HSA.out).mono ?_; rintro e w' ⟨rfl, rfl⟩) | (go_at_call 139; refine (l27Input_any _ _ _ lo hi xin _ (HB.out _) (by omega) HSI.out).mono ?_; rintro e w' ⟨rfl, rfl⟩) | (go_at_call 78; refine (l00In_any _ _ _ _).mono ?_; rintro e w' ⟨rfl, rfl⟩) | (go_at_call 141; refine (l32Keep_any _ _ _ lo hi xkeep _ (HC.out _) (by omega)).mono ?_; rintro e w' ⟨rfl, q, rfl⟩) | go_in)
      go_ret
      refine ⟨?_, ?_⟩
      · first | rfl | (simp; done) | (refine congrArg (fun b => Ending.returned (.bool b)) ?_; rw [Bool.eq_iff_iff]; simp; done)
      · first | exact HD.out _ | exact HDq.out _ _ | exact HD2.out _ _ | exact HD2q.out _ _ _ | exact HDqq.out _ _ _
    · subst q5
      have HV := Lib.hid (show actB ⟨7, a, r, l, xargs, xin, xkeep⟩ = (inB a (-1) 1700 && keepB xkeep) by simp [actB, Q1.out, Q2.out, Q3.out, Q4.out])
      rw [HV.out]
      cases hin : inB a (-1) 1700
      all_goals
        simp only [Bool.true_and, Bool.false_and]
        go_enter Tryz.func77, Tryz.ntmps77
        go_wp2_with (first | (go_at_call 137; refine (specNameOk_any _ _ (by omega)).mono ?_; rintro e w' ⟨rfl, rfl⟩) | (go_at_call 138; refine (l32Texts_any _ _ _ lo hi 5 xargs _ (HA.out _) (by omega) (by omega) (by omega) HSA.out).mono ?_; rintro e w' ⟨rfl, rfl⟩) | (go_at_call 139; refine (l27Input_any _ _ _ lo hi xin _ (HB.out _) (by omega) HSI.out).mono ?_; rintro e w' ⟨rfl, rfl⟩) | (go_at_call 78; refine (l00In_any _ _ _ _).mono ?_; rintro e w' ⟨rfl, rfl⟩) | (go_at_call 141; refine (l32Keep_any _ _ _ lo hi xkeep _ (HC.out _) (by omega)).mono ?_; rintro e w' ⟨rfl, q, rfl⟩) | go_in)
        go_ret
        refine ⟨?_, ?_⟩
        · first | rfl | (simp; done) | (refine congrArg (fun b => Ending.returned (.bool b)) ?_; rw [Bool.eq_iff_iff]; simp; done)
        · first | exact HD.out _ | exact HDq.out _ _ | exact HD2.out _ _ | exact HD2q.out _ _ _ | exact HDqq.out _ _ _
    · have e7 : (k == 7) = false := by rw [beq_eq_false_iff_ne]; exact q5
      have n7 : (k != 7) = true := by rw [bne_iff_ne]; exact q5
      have p5 : xkeep.length ≤ 0 := by omega
      have d5 : decide (0 < xkeep.length) = false := decide_eq_false (by omega)
      have hv : actB ⟨k, a, r, l, xargs, xin, xkeep⟩ = if k = 2 then inB a 1 4 else if k = 3 ∨ k = 4 ∨ k = 6 then decide (a = 0) else if k = 5 then inB a 0 64 else false := by
        simp [actB, hk, Q1.out, Q2.out, Q3.out, Q4.out, q5, q6]
      rw [hv]
      clear hv
      have HV := Lib.hid (show a = 0 ∨ a ≠ 0 by omega)
      by_cases k2 : k = 2
      · subst k2
        rw [if_pos rfl]
        go_enter Tryz.func77, Tryz.ntmps77
        go_wp2_with (first | (go_at_call 137; refine (specNameOk_any _ _ (by omega)).mono ?_; rintro e w' ⟨rfl, rfl⟩) | (go_at_call 138; refine (l32Texts_any _ _ _ lo hi 5 xargs _ (HA.out _) (by omega) (by omega) (by omega) HSA.out).mono ?_; rintro e w' ⟨rfl, rfl⟩) | (go_at_call 139; refine (l27Input_any _ _ _ lo hi xin _ (HB.out _) (by omega) HSI.out).mono ?_; rintro e w' ⟨rfl, rfl⟩) | (go_at_call 78; refine (l00In_any _ _ _ _).mono ?_; rintro e w' ⟨rfl, rfl⟩) | (go_at_call 141; refine (l32Keep_any _ _ _ lo hi xkeep _ (HC.out _) (by omega)).mono ?_; rintro e w' ⟨rfl, q, rfl⟩) | go_in)
        go_ret
        refine ⟨?_, ?_⟩
        · first | rfl | (simp; done) | (refine congrArg (fun b => Ending.returned (.bool b)) ?_; rw [Bool.eq_iff_iff]; simp; done)
        · first | exact HD.out _ | exact HDq.out _ _ | exact HD2.out _ _ | exact HD2q.out _ _ _ | exact HDqq.out _ _ _
      have f2 : (k == 2) = false := by rw [beq_eq_false_iff_ne]; exact k2
      rw [if_neg k2]
      by_cases k3 : k = 3
      · subst k3
        rw [if_pos (by omega)]
        go_enter Tryz.func77, Tryz.ntmps77
        go_wp2_with (first | (go_at_call 137; refine (specNameOk_any _ _ (by omega)).mono ?_; rintro e w' ⟨rfl, rfl⟩) | (go_at_call 138; refine (l32Texts_any _ _ _ lo hi 5 xargs _ (HA.out _) (by omega) (by omega) (by omega) HSA.out).mono ?_; rintro e w' ⟨rfl, rfl⟩) | (go_at_call 139; refine (l27Input_any _ _ _ lo hi xin _ (HB.out _) (by omega) HSI.out).mono ?_; rintro e w' ⟨rfl, rfl⟩) | (go_at_call 78; refine (l00In_any _ _ _ _).mono ?_; rintro e w' ⟨rfl, rfl⟩) | (go_at_call 141; refine (l32Keep_any _ _ _ lo hi xkeep _ (HC.out _) (by omega)).mono ?_; rintro e w' ⟨rfl, q, rfl⟩) | go_in)
        go_ret
        refine ⟨?_, ?_⟩
        · first | rfl | (simp; done) | (refine congrArg (fun b => Ending.returned (.bool b)) ?_; rw [Bool.eq_iff_iff]; simp; done)
        · first | exact HD.out _ | exact HDq.out _ _ | exact HD2.out _ _ | exact HD2q.out _ _ _ | exact HDqq.out _ _ _
      have f3 : (k == 3) = false := by rw [beq_eq_false_iff_ne]; exact k3
      by_cases k4 : k = 4
      · subst k4
        rw [if_pos (by omega)]
        go_enter Tryz.func77, Tryz.ntmps77
        go_wp2_with (first | (go_at_call 137; refine (specNameOk_any _ _ (by omega)).mono ?_; rintro e w' ⟨rfl, rfl⟩) | (go_at_call 138; refine (l32Texts_any _ _ _ lo hi 5 xargs _ (HA.out _) (by omega) (by omega) (by omega) HSA.out).mono ?_; rintro e w' ⟨rfl, rfl⟩) | (go_at_call 139; refine (l27Input_any _ _ _ lo hi xin _ (HB.out _) (by omega) HSI.out).mono ?_; rintro e w' ⟨rfl, rfl⟩) | (go_at_call 78; refine (l00In_any _ _ _ _).mono ?_; rintro e w' ⟨rfl, rfl⟩) | (go_at_call 141; refine (l32Keep_any _ _ _ lo hi xkeep _ (HC.out _) (by omega)).mono ?_; rintro e w' ⟨rfl, q, rfl⟩) | go_in)
        go_ret
        refine ⟨?_, ?_⟩
        · first | rfl | (simp; done) | (refine congrArg (fun b => Ending.returned (.bool b)) ?_; rw [Bool.eq_iff_iff]; simp; done)
        · first | exact HD.out _ | exact HDq.out _ _ | exact HD2.out _ _ | exact HD2q.out _ _ _ | exact HDqq.out _ _ _
      have f4 : (k == 4) = false := by rw [beq_eq_false_iff_ne]; exact k4
      by_cases k6 : k = 6
      · subst k6
        rw [if_pos (by omega)]
        go_enter Tryz.func77, Tryz.ntmps77
        go_wp2_with (first | (go_at_call 137; refine (specNameOk_any _ _ (by omega)).mono ?_; rintro e w' ⟨rfl, rfl⟩) | (go_at_call 138; refine (l32Texts_any _ _ _ lo hi 5 xargs _ (HA.out _) (by omega) (by omega) (by omega) HSA.out).mono ?_; rintro e w' ⟨rfl, rfl⟩) | (go_at_call 139; refine (l27Input_any _ _ _ lo hi xin _ (HB.out _) (by omega) HSI.out).mono ?_; rintro e w' ⟨rfl, rfl⟩) | (go_at_call 78; refine (l00In_any _ _ _ _).mono ?_; rintro e w' ⟨rfl, rfl⟩) | (go_at_call 141; refine (l32Keep_any _ _ _ lo hi xkeep _ (HC.out _) (by omega)).mono ?_; rintro e w' ⟨rfl, q, rfl⟩) | go_in)
        go_ret
        refine ⟨?_, ?_⟩
        · first | rfl | (simp; done) | (refine congrArg (fun b => Ending.returned (.bool b)) ?_; rw [Bool.eq_iff_iff]; simp; done)
        · first | exact HD.out _ | exact HDq.out _ _ | exact HD2.out _ _ | exact HD2q.out _ _ _ | exact HDqq.out _ _ _
      have f6 : (k == 6) = false := by rw [beq_eq_false_iff_ne]; exact k6
      rw [if_neg (by omega)]
      by_cases k5 : k = 5
      · subst k5
        rw [if_pos rfl]
        go_enter Tryz.func77, Tryz.ntmps77
        go_wp2_with (first | (go_at_call 137; refine (specNameOk_any _ _ (by omega)).mono ?_; rintro e w' ⟨rfl, rfl⟩) | (go_at_call 138; refine (l32Texts_any _ _ _ lo hi 5 xargs _ (HA.out _) (by omega) (by omega) (by omega) HSA.out).mono ?_; rintro e w' ⟨rfl, rfl⟩) | (go_at_call 139; refine (l27Input_any _ _ _ lo hi xin _ (HB.out _) (by omega) HSI.out).mono ?_; rintro e w' ⟨rfl, rfl⟩) | (go_at_call 78; refine (l00In_any _ _ _ _).mono ?_; rintro e w' ⟨rfl, rfl⟩) | (go_at_call 141; refine (l32Keep_any _ _ _ lo hi xkeep _ (HC.out _) (by omega)).mono ?_; rintro e w' ⟨rfl, q, rfl⟩) | go_in)
        go_ret
        refine ⟨?_, ?_⟩
        · first | rfl | (simp; done) | (refine congrArg (fun b => Ending.returned (.bool b)) ?_; rw [Bool.eq_iff_iff]; simp; done)
        · first | exact HD.out _ | exact HDq.out _ _ | exact HD2.out _ _ | exact HD2q.out _ _ _ | exact HDqq.out _ _ _
      have f5 : (k == 5) = false := by rw [beq_eq_false_iff_ne]; exact k5
      rw [if_neg k5]
      go_enter Tryz.func77, Tryz.ntmps77
      go_wp2_with (first | (go_at_call 137; refine (specNameOk_any _ _ (by omega)).mono ?_; rintro e w' ⟨rfl, rfl⟩) | (go_at_call 138; refine (l32Texts_any _ _ _ lo hi 5 xargs _ (HA.out _) (by omega) (by omega) (by omega) HSA.out).mono ?_; rintro e w' ⟨rfl, rfl⟩) | (go_at_call 139; refine (l27Input_any _ _ _ lo hi xin _ (HB.out _) (by omega) HSI.out).mono ?_; rintro e w' ⟨rfl, rfl⟩) | (go_at_call 78; refine (l00In_any _ _ _ _).mono ?_; rintro e w' ⟨rfl, rfl⟩) | (go_at_call 141; refine (l32Keep_any _ _ _ lo hi xkeep _ (HC.out _) (by omega)).mono ?_; rintro e w' ⟨rfl, q, rfl⟩) | go_in)
      go_ret
      refine ⟨?_, ?_⟩
      · first | rfl | (simp; done) | (refine congrArg (fun b => Ending.returned (.bool b)) ?_; rw [Bool.eq_iff_iff]; simp; done)
      · first | exact HD.out _ | exact HDq.out _ _ | exact HD2.out _ _ | exact HD2q.out _ _ _ | exact HDqq.out _ _ _

end Go.Proofs.YtcjaaknnfohllaaGreatDoor

/- The program's SiteActOk computes actB. -/
namespace Go.Proofs.YtcjaaknnfohllaaGreatDoor
open Go.RowKit

set_option maxHeartbeats 8000000 in
set_option maxRecDepth 100000 in
theorem implSiteActOk_any (x : Act) (v : Value) (lo hi : Nat) (w : World) (hx : ActR w lo hi v x) (hhi : hi ≤ w.heap.size) (hs : ActSmall x) :
    Calls Tryz.prog 84 #[v] w fun e w' => e = .returned (.bool (actB x)) ∧ Below w.heap.size w w' := by
  obtain ⟨k, a, r, l, xargs, xin, xkeep⟩ := x
  obtain ⟨A, c, B, d, C, e, rfl, hA, hB, hC⟩ := hx
  obtain ⟨hs1, hs2, hs3, hs4, hs5, hs6, hs7⟩ := hs
  dsimp only at *
  have hbo := fun o => (Below.refl w.heap.size w).alloc (Nat.le_refl _) o
  have hbo2 := fun o o' => ((Below.refl w.heap.size w).alloc (Nat.le_refl _) o).alloc (by simp) o'
  have HA := Lib.hid (fun o => hA.below (hbo o) hhi)
  have HB := Lib.hid (fun o => hB.below (hbo o) hhi)
  have HBq := Lib.hid (fun o q => (hB.below (hbo o) hhi).drewN q)
  have HC := Lib.hid (fun o => hC.below (hbo o) hhi)
  have HC2 := Lib.hid (fun o o' => hC.below (hbo2 o o') hhi)
  have HD := Lib.hid hbo
  have HD2 := Lib.hid hbo2
  have HDq := Lib.hid (fun o q => (hbo o).trans ((below_drewN' (w.alloc o) q).mono (by simp)))
  have HDqq := Lib.hid (fun o q q' => ((hbo o).trans ((below_drewN' (w.alloc o) q).mono (by simp))).trans ((below_drewN' ((w.alloc o).drewN q) q').mono (by show w.heap.size ≤ (w.alloc o).heap.size; simp)))
  have HD2q := Lib.hid (fun o o' q => (hbo2 o o').trans ((below_drewN' ((w.alloc o).alloc o') q).mono (by simp; omega)))
  have HSA := Lib.hid hs6
  have HSI := Lib.hid hs7
  clear hA hB hC hbo hbo2 hs6 hs7
  by_cases hk : k = 1
  · subst hk
    have hc : (xkeep.length ≠ 0) ∨ (xkeep.length = 0 ∧ a ≠ 0) ∨ (xkeep.length = 0 ∧ a = 0 ∧ nameB r = false) ∨ (xkeep.length = 0 ∧ a = 0 ∧ nameB r = true ∧ nameB l = false) ∨
        (xkeep.length = 0 ∧ a = 0 ∧ nameB r = true ∧ nameB l = true ∧ textsB 5 xargs = false) ∨ (xkeep.length = 0 ∧ a = 0 ∧ nameB r = true ∧ nameB l = true ∧ textsB 5 xargs = true ∧ True) := by
      by_cases q1 : xkeep.length = 0 <;> by_cases q2 : a = 0 <;> cases nameB r <;> cases nameB l <;> cases textsB 5 xargs <;> simp [q1, q2]
    have HV := Lib.hid (show actB ⟨1, a, r, l, xargs, xin, xkeep⟩ = (decide (xkeep.length = 0) && decide (a = 0) && nameB r && nameB l && textsB 5 xargs && textsB 8 xin) from rfl)
    rw [HV.out]
    rcases hc with hc | ⟨hc, hc2⟩ | ⟨hc, hc2, hc3⟩ | ⟨hc, hc2, hc3, hc4⟩ | ⟨hc, hc2, hc3, hc4, hc5⟩ | ⟨hc, hc2, hc3, hc4, hc5, _⟩
    · have hz : decide (0 < xkeep.length) = true := decide_eq_true (by omega)
      have hzp : 0 < xkeep.length := by omega
      have hz2 : ((xkeep.length : Int) == 0) = false := by rw [beq_eq_false_iff_ne]; omega
      rw [decide_eq_false hc, Bool.false_and, Bool.false_and, Bool.false_and, Bool.false_and, Bool.false_and]
      by_cases ha : (a == 0) = true
      all_goals
        try simp only [Bool.not_eq_true] at ha
        go_enter Tryz.func84, Tryz.ntmps84
        go_wp2_with (first | (go_at_call 144; refine (implNameOk_any _ _ (by omega)).mono ?_; rintro e w' ⟨rfl, rfl⟩) | (go_at_call 145; refine (long_any _ _ _ lo hi xargs _ (HA.out _) (by omega)).mono ?_; rintro e w' ⟨rfl, q1, rfl⟩) | (go_at_call 146; refine (inputListOk_any _ _ _ lo hi xin _ (HBq.out _ _) (by omega)).mono ?_; rintro e w' ⟨rfl, q2, rfl⟩) | (go_at_call 85; refine (within_any _ _ _ _).mono ?_; rintro e w' ⟨rfl, rfl⟩) | (go_at_call 149; refine (keepOk_any _ _ _ lo hi xkeep _ (HC2.out _ _) (by omega)).mono ?_; rintro e w' ⟨rfl, q, rfl⟩) | go_in)
        go_ret
        refine ⟨?_, ?_⟩
        · first | rfl | (simp; done) | (refine congrArg (fun b => Ending.returned (.bool b)) ?_; rw [Bool.eq_iff_iff]; simp; done)
        · first | exact HD.out _ | exact HDq.out _ _ | exact HD2.out _ _ | exact HD2q.out _ _ _ | exact HDqq.out _ _ _
    all_goals
      have hz : decide (0 < xkeep.length) = false := decide_eq_false (by omega)
      have hzp : xkeep.length ≤ 0 := by omega
      have hz2 : ((xkeep.length : Int) == 0) = true := by rw [beq_iff_eq]; omega
      rw [decide_eq_true hc, Bool.true_and]
      have HC0 := Lib.hid hc; clear hc
    · have ha : (a == 0) = false := by rw [beq_eq_false_iff_ne]; exact hc2
      rw [decide_eq_false hc2, Bool.false_and, Bool.false_and, Bool.false_and, Bool.false_and]
      clear hc2
      go_enter Tryz.func84, Tryz.ntmps84
      go_wp2_with (first | (go_at_call 144; refine (implNameOk_any _ _ (by omega)).mono ?_; rintro e w' ⟨rfl, rfl⟩) | (go_at_call 145; refine (long_any _ _ _ lo hi xargs _ (HA.out _) (by omega)).mono ?_; rintro e w' ⟨rfl, q1, rfl⟩) | (go_at_call 146; refine (inputListOk_any _ _ _ lo hi xin _ (HBq.out _ _) (by omega)).mono ?_; rintro e w' ⟨rfl, q2, rfl⟩) | (go_at_call 85; refine (within_any _ _ _ _).mono ?_; rintro e w' ⟨rfl, rfl⟩) | (go_at_call 149; refine (keepOk_any _ _ _ lo hi xkeep _ (HC2.out _ _) (by omega)).mono ?_; rintro e w' ⟨rfl, q, rfl⟩) | go_in)
      go_ret
      refine ⟨?_, ?_⟩
      · first | rfl | (simp; done) | (refine congrArg (fun b => Ending.returned (.bool b)) ?_; rw [Bool.eq_iff_iff]; simp; done)
      · first | exact HD.out _ | exact HDq.out _ _ | exact HD2.out _ _ | exact HD2q.out _ _ _ | exact HDqq.out _ _ _
    all_goals
      have ha : (a == 0) = true := by rw [beq_iff_eq]; exact hc2
      rw [decide_eq_true hc2, Bool.true_and]
      clear hc2
    · rw [hc3, Bool.false_and, Bool.false_and, Bool.false_and]
      go_enter Tryz.func84, Tryz.ntmps84
      go_wp2_with (first | (go_at_call 144; refine (implNameOk_any _ _ (by omega)).mono ?_; rintro e w' ⟨rfl, rfl⟩) | (go_at_call 145; refine (long_any _ _ _ lo hi xargs _ (HA.out _) (by omega)).mono ?_; rintro e w' ⟨rfl, q1, rfl⟩) | (go_at_call 146; refine (inputListOk_any _ _ _ lo hi xin _ (HBq.out _ _) (by omega)).mono ?_; rintro e w' ⟨rfl, q2, rfl⟩) | (go_at_call 85; refine (within_any _ _ _ _).mono ?_; rintro e w' ⟨rfl, rfl⟩) | (go_at_call 149; refine (keepOk_any _ _ _ lo hi xkeep _ (HC2.out _ _) (by omega)).mono ?_; rintro e w' ⟨rfl, q, rfl⟩) | go_in)
      go_ret
      refine ⟨?_, ?_⟩
      · first | rfl | (simp; done) | (refine congrArg (fun b => Ending.returned (.bool b)) ?_; rw [Bool.eq_iff_iff]; simp; done)
      · first | exact HD.out _ | exact HDq.out _ _ | exact HD2.out _ _ | exact HD2q.out _ _ _ | exact HDqq.out _ _ _
    · rw [hc3, hc4, Bool.true_and, Bool.false_and, Bool.false_and]
      go_enter Tryz.func84, Tryz.ntmps84
      go_wp2_with (first | (go_at_call 144; refine (implNameOk_any _ _ (by omega)).mono ?_; rintro e w' ⟨rfl, rfl⟩) | (go_at_call 145; refine (long_any _ _ _ lo hi xargs _ (HA.out _) (by omega)).mono ?_; rintro e w' ⟨rfl, q1, rfl⟩) | (go_at_call 146; refine (inputListOk_any _ _ _ lo hi xin _ (HBq.out _ _) (by omega)).mono ?_; rintro e w' ⟨rfl, q2, rfl⟩) | (go_at_call 85; refine (within_any _ _ _ _).mono ?_; rintro e w' ⟨rfl, rfl⟩) | (go_at_call 149; refine (keepOk_any _ _ _ lo hi xkeep _ (HC2.out _ _) (by omega)).mono ?_; rintro e w' ⟨rfl, q, rfl⟩) | go_in)
      go_ret
      refine ⟨?_, ?_⟩
      · first | rfl | (simp; done) | (refine congrArg (fun b => Ending.returned (.bool b)) ?_; rw [Bool.eq_iff_iff]; simp; done)
      · first | exact HD.out _ | exact HDq.out _ _ | exact HD2.out _ _ | exact HD2q.out _ _ _ | exact HDqq.out _ _ _
    · rw [hc3, hc4, hc5, Bool.true_and, Bool.true_and, Bool.false_and]
      by_cases h5 : xargs.length ≤ 5
      · have hal : xargs.all shortB = false := by simpa [textsB, h5] using hc5
        have d5 : decide ((xargs.length : Int) ≤ 5) = true := decide_eq_true (by omega)
        have HC5 := Lib.hid hc5; clear hc5
        go_enter Tryz.func84, Tryz.ntmps84
        go_wp2_with (first | (go_at_call 144; refine (implNameOk_any _ _ (by omega)).mono ?_; rintro e w' ⟨rfl, rfl⟩) | (go_at_call 145; refine (long_any _ _ _ lo hi xargs _ (HA.out _) (by omega)).mono ?_; rintro e w' ⟨rfl, q1, rfl⟩) | (go_at_call 146; refine (inputListOk_any _ _ _ lo hi xin _ (HBq.out _ _) (by omega)).mono ?_; rintro e w' ⟨rfl, q2, rfl⟩) | (go_at_call 85; refine (within_any _ _ _ _).mono ?_; rintro e w' ⟨rfl, rfl⟩) | (go_at_call 149; refine (keepOk_any _ _ _ lo hi xkeep _ (HC2.out _ _) (by omega)).mono ?_; rintro e w' ⟨rfl, q, rfl⟩) | go_in)
        go_ret
        refine ⟨?_, ?_⟩
        · first | rfl | (simp; done) | (refine congrArg (fun b => Ending.returned (.bool b)) ?_; rw [Bool.eq_iff_iff]; simp; done)
        · first | exact HD.out _ | exact HDq.out _ _ | exact HD2.out _ _ | exact HD2q.out _ _ _ | exact HDqq.out _ _ _
      · have d5 : decide ((xargs.length : Int) ≤ 5) = false := decide_eq_false (by omega)
        have HC5 := Lib.hid hc5; clear hc5
        go_enter Tryz.func84, Tryz.ntmps84
        go_wp2_with (first | (go_at_call 144; refine (implNameOk_any _ _ (by omega)).mono ?_; rintro e w' ⟨rfl, rfl⟩) | (go_at_call 145; refine (long_any _ _ _ lo hi xargs _ (HA.out _) (by omega)).mono ?_; rintro e w' ⟨rfl, q1, rfl⟩) | (go_at_call 146; refine (inputListOk_any _ _ _ lo hi xin _ (HBq.out _ _) (by omega)).mono ?_; rintro e w' ⟨rfl, q2, rfl⟩) | (go_at_call 85; refine (within_any _ _ _ _).mono ?_; rintro e w' ⟨rfl, rfl⟩) | (go_at_call 149; refine (keepOk_any _ _ _ lo hi xkeep _ (HC2.out _ _) (by omega)).mono ?_; rintro e w' ⟨rfl, q, rfl⟩) | go_in)
        go_ret
        refine ⟨?_, ?_⟩
        · first | rfl | (simp; done) | (refine congrArg (fun b => Ending.returned (.bool b)) ?_; rw [Bool.eq_iff_iff]; simp; done)
        · first | exact HD.out _ | exact HDq.out _ _ | exact HD2.out _ _ | exact HD2q.out _ _ _ | exact HDqq.out _ _ _
    · rw [hc3, hc4, hc5, Bool.true_and, Bool.true_and, Bool.true_and]
      have h5 : xargs.length ≤ 5 ∧ xargs.all shortB = true := by simpa [textsB] using hc5
      have d5 : decide ((xargs.length : Int) ≤ 5) = true := decide_eq_true (by omega)
      have hal := h5.2
      have h5l := h5.1
      have HC5 := Lib.hid hc5; clear hc5 h5
      go_enter Tryz.func84, Tryz.ntmps84
      go_wp2_with (first | (go_at_call 144; refine (implNameOk_any _ _ (by omega)).mono ?_; rintro e w' ⟨rfl, rfl⟩) | (go_at_call 145; refine (long_any _ _ _ lo hi xargs _ (HA.out _) (by omega)).mono ?_; rintro e w' ⟨rfl, q1, rfl⟩) | (go_at_call 146; refine (inputListOk_any _ _ _ lo hi xin _ (HBq.out _ _) (by omega)).mono ?_; rintro e w' ⟨rfl, q2, rfl⟩) | (go_at_call 85; refine (within_any _ _ _ _).mono ?_; rintro e w' ⟨rfl, rfl⟩) | (go_at_call 149; refine (keepOk_any _ _ _ lo hi xkeep _ (HC2.out _ _) (by omega)).mono ?_; rintro e w' ⟨rfl, q, rfl⟩) | go_in)
      go_ret
      refine ⟨?_, ?_⟩
      · first | rfl | (simp; done) | (refine congrArg (fun b => Ending.returned (.bool b)) ?_; rw [Bool.eq_iff_iff]; simp; done)
      · first | exact HD.out _ | exact HDq.out _ _ | exact HD2.out _ _ | exact HD2q.out _ _ _ | exact HDqq.out _ _ _
  · have ek1 : (k == 1) = false := by rw [beq_eq_false_iff_ne]; exact hk
    have nk1 : (k != 1) = true := by rw [bne_iff_ne]; exact hk
    have hc : (r.size ≠ 0) ∨ (r.size = 0 ∧ l.size ≠ 0) ∨ (r.size = 0 ∧ l.size = 0 ∧ xargs.length ≠ 0) ∨ (r.size = 0 ∧ l.size = 0 ∧ xargs.length = 0 ∧ xin.length ≠ 0) ∨
        (r.size = 0 ∧ l.size = 0 ∧ xargs.length = 0 ∧ xin.length = 0 ∧ k ≠ 7 ∧ xkeep.length ≠ 0) ∨ (r.size = 0 ∧ l.size = 0 ∧ xargs.length = 0 ∧ xin.length = 0 ∧ k = 7) ∨
        (r.size = 0 ∧ l.size = 0 ∧ xargs.length = 0 ∧ xin.length = 0 ∧ k ≠ 7 ∧ xkeep.length = 0) := by omega
    rcases hc with q1 | ⟨q1, q2⟩ | ⟨q1, q2, q3⟩ | ⟨q1, q2, q3, q4⟩ | ⟨q1, q2, q3, q4, q5, q6⟩ | ⟨q1, q2, q3, q4, q5⟩ | ⟨q1, q2, q3, q4, q5, q6⟩
    · have HV := Lib.hid (show actB ⟨k, a, r, l, xargs, xin, xkeep⟩ = false by simp [actB, hk, q1])
      rw [HV.out]
      have er := isEmpty_false q1
      have er2 : (!r.toList.isEmpty) = true := by rw [er]; rfl
      go_enter Tryz.func84, Tryz.ntmps84
      go_wp2_with (first | (go_at_call 144; refine (implNameOk_any _ _ (by omega)).mono ?_; rintro e w' ⟨rfl, rfl⟩) | (go_at_call 145; refine (long_any _ _ _ lo hi xargs _ (HA.out _) (by omega)).mono ?_; rintro e w' ⟨rfl, q1, rfl⟩) | (go_at_call 146; refine (inputListOk_any _ _ _ lo hi xin _ (HBq.out _ _) (by omega)).mono ?_; rintro e w' ⟨rfl, q2, rfl⟩) | (go_at_call 85; refine (within_any _ _ _ _).mono ?_; rintro e w' ⟨rfl, rfl⟩) | (go_at_call 149; refine (keepOk_any _ _ _ lo hi xkeep _ (HC2.out _ _) (by omega)).mono ?_; rintro e w' ⟨rfl, q, rfl⟩) | go_in)
      go_ret
      refine ⟨?_, ?_⟩
      · first | rfl | (simp; done) | (refine congrArg (fun b => Ending.returned (.bool b)) ?_; rw [Bool.eq_iff_iff]; simp; done)
      · first | exact HD.out _ | exact HDq.out _ _ | exact HD2.out _ _ | exact HD2q.out _ _ _ | exact HDqq.out _ _ _
    · have HV := Lib.hid (show actB ⟨k, a, r, l, xargs, xin, xkeep⟩ = false by simp [actB, hk, q1, q2])
      rw [HV.out]
      have er := isEmpty_true q1
      have er2 : (!r.toList.isEmpty) = false := by rw [er]; rfl
      have el := isEmpty_false q2
      have el2 : (!l.toList.isEmpty) = true := by rw [el]; rfl
      have Q1 := Lib.hid q1; clear q1
      go_enter Tryz.func84, Tryz.ntmps84
      go_wp2_with (first | (go_at_call 144; refine (implNameOk_any _ _ (by omega)).mono ?_; rintro e w' ⟨rfl, rfl⟩) | (go_at_call 145; refine (long_any _ _ _ lo hi xargs _ (HA.out _) (by omega)).mono ?_; rintro e w' ⟨rfl, q1, rfl⟩) | (go_at_call 146; refine (inputListOk_any _ _ _ lo hi xin _ (HBq.out _ _) (by omega)).mono ?_; rintro e w' ⟨rfl, q2, rfl⟩) | (go_at_call 85; refine (within_any _ _ _ _).mono ?_; rintro e w' ⟨rfl, rfl⟩) | (go_at_call 149; refine (keepOk_any _ _ _ lo hi xkeep _ (HC2.out _ _) (by omega)).mono ?_; rintro e w' ⟨rfl, q, rfl⟩) | go_in)
      go_ret
      refine ⟨?_, ?_⟩
      · first | rfl | (simp; done) | (refine congrArg (fun b => Ending.returned (.bool b)) ?_; rw [Bool.eq_iff_iff]; simp; done)
      · first | exact HD.out _ | exact HDq.out _ _ | exact HD2.out _ _ | exact HD2q.out _ _ _ | exact HDqq.out _ _ _
    all_goals
      have er := isEmpty_true q1
      have er2 : (!r.toList.isEmpty) = false := by rw [er]; rfl
      have el := isEmpty_true q2
      have el2 : (!l.toList.isEmpty) = false := by rw [el]; rfl
      have Q1 := Lib.hid q1
      have Q2 := Lib.hid q2
      clear q1 q2
    · have HV := Lib.hid (show actB ⟨k, a, r, l, xargs, xin, xkeep⟩ = false by simp [actB, hk, Q1.out, Q2.out, q3])
      rw [HV.out]
      have p3 : 0 < xargs.length := by omega
      have d3 : decide (0 < xargs.length) = true := decide_eq_true p3
      have z3 : ((xargs.length : Int) == 0) = false := by rw [beq_eq_false_iff_ne]; omega
      go_enter Tryz.func84, Tryz.ntmps84
      go_wp2_with (first | (go_at_call 144; refine (implNameOk_any _ _ (by omega)).mono ?_; rintro e w' ⟨rfl, rfl⟩) | (go_at_call 145; refine (long_any _ _ _ lo hi xargs _ (HA.out _) (by omega)).mono ?_; rintro e w' ⟨rfl, q1, rfl⟩) | (go_at_call 146; refine (inputListOk_any _ _ _ lo hi xin _ (HBq.out _ _) (by omega)).mono ?_; rintro e w' ⟨rfl, q2, rfl⟩) | (go_at_call 85; refine (within_any _ _ _ _).mono ?_; rintro e w' ⟨rfl, rfl⟩) | (go_at_call 149; refine (keepOk_any _ _ _ lo hi xkeep _ (HC2.out _ _) (by omega)).mono ?_; rintro e w' ⟨rfl, q, rfl⟩) | go_in)
      go_ret
      refine ⟨?_, ?_⟩
      · first | rfl | (simp; done) | (refine congrArg (fun b => Ending.returned (.bool b)) ?_; rw [Bool.eq_iff_iff]; simp; done)
      · first | exact HD.out _ | exact HDq.out _ _ | exact HD2.out _ _ | exact HD2q.out _ _ _ | exact HDqq.out _ _ _
    all_goals
      have p3 : xargs.length ≤ 0 := by omega
      have d3 : decide (0 < xargs.length) = false := decide_eq_false (by omega)
      have z3 : ((xargs.length : Int) == 0) = true := by rw [beq_iff_eq]; omega
      have Q3 := Lib.hid q3
      clear q3
    · have HV := Lib.hid (show actB ⟨k, a, r, l, xargs, xin, xkeep⟩ = false by simp [actB, hk, Q1.out, Q2.out, Q3.out, q4])
      rw [HV.out]
      have p4 : 0 < xin.length := by omega
      have d4 : decide (0 < xin.length) = true := decide_eq_true p4
      have z4 : ((xin.length : Int) == 0) = false := by rw [beq_eq_false_iff_ne]; omega
      go_enter Tryz.func84, Tryz.ntmps84
      go_wp2_with (first | (go_at_call 144; refine (implNameOk_any _ _ (by omega)).mono ?_; rintro e w' ⟨rfl, rfl⟩) | (go_at_call 145; refine (long_any _ _ _ lo hi xargs _ (HA.out _) (by omega)).mono ?_; rintro e w' ⟨rfl, q1, rfl⟩) | (go_at_call 146; refine (inputListOk_any _ _ _ lo hi xin _ (HBq.out _ _) (by omega)).mono ?_; rintro e w' ⟨rfl, q2, rfl⟩) | (go_at_call 85; refine (within_any _ _ _ _).mono ?_; rintro e w' ⟨rfl, rfl⟩) | (go_at_call 149; refine (keepOk_any _ _ _ lo hi xkeep _ (HC2.out _ _) (by omega)).mono ?_; rintro e w' ⟨rfl, q, rfl⟩) | go_in)
      go_ret
      refine ⟨?_, ?_⟩
      · first | rfl | (simp; done) | (refine congrArg (fun b => Ending.returned (.bool b)) ?_; rw [Bool.eq_iff_iff]; simp; done)
      · first | exact HD.out _ | exact HDq.out _ _ | exact HD2.out _ _ | exact HD2q.out _ _ _ | exact HDqq.out _ _ _
    all_goals
      have p4 : xin.length ≤ 0 := by omega
      have d4 : decide (0 < xin.length) = false := decide_eq_false (by omega)
      have z4 : ((xin.length : Int) == 0) = true := by rw [beq_iff_eq]; omega
      have Q4 := Lib.hid q4
      clear q4
    · have HV := Lib.hid (show actB ⟨k, a, r, l, xargs, xin, xkeep⟩ = false by simp [actB, hk, Q1.out, Q2.out, Q3.out, Q4.out, q5, q6])
      rw [HV.out]
      have e7 : (k == 7) = false := by rw [beq_eq_false_iff_ne]; exact q5
      have n7 : (k != 7) = true := by rw [bne_iff_ne]; exact q5
      have p5 : 0 < xkeep.length := by omega
      have d5 : decide (0 < xkeep.length) = true := decide_eq_true p5
      go_enter Tryz.func84, Tryz.ntmps84
      go_wp2_with (first | (go_at_call 144; refine (implNameOk_any _ _ (by omega)).mono ?_; rintro e w' ⟨rfl, rfl⟩) | (go_at_call 145; refine (long_any _ _ _ lo hi xargs _ (HA.out _) (by omega)).mono ?_; rintro e w' ⟨rfl, q1, rfl⟩) | (go_at_call 146; refine (inputListOk_any _ _ _ lo hi xin _ (HBq.out _ _) (by omega)).mono ?_; rintro e w' ⟨rfl, q2, rfl⟩) | (go_at_call 85; refine (within_any _ _ _ _).mono ?_; rintro e w' ⟨rfl, rfl⟩) | (go_at_call 149; refine (keepOk_any _ _ _ lo hi xkeep _ (HC2.out _ _) (by omega)).mono ?_; rintro e w' ⟨rfl, q, rfl⟩) | go_in)
      go_ret
      refine ⟨?_, ?_⟩
      · first | rfl | (simp; done) | (refine congrArg (fun b => Ending.returned (.bool b)) ?_; rw [Bool.eq_iff_iff]; simp; done)
      · first | exact HD.out _ | exact HDq.out _ _ | exact HD2.out _ _ | exact HD2q.out _ _ _ | exact HDqq.out _ _ _
    · subst q5
      have HV := Lib.hid (show actB ⟨7, a, r, l, xargs, xin, xkeep⟩ = (inB a (-1) 1700 && keepB xkeep) by simp [actB, Q1.out, Q2.out, Q3.out, Q4.out])
      rw [HV.out]
      cases hin : inB a (-1) 1700
      all_goals
        simp only [Bool.true_and, Bool.false_and]
        go_enter Tryz.func84, Tryz.ntmps84
        go_wp2_with (first | (go_at_call 144; refine (implNameOk_any _ _ (by omega)).mono ?_; rintro e w' ⟨rfl, rfl⟩) | (go_at_call 145; refine (long_any _ _ _ lo hi xargs _ (HA.out _) (by omega)).mono ?_; rintro e w' ⟨rfl, q1, rfl⟩) | (go_at_call 146; refine (inputListOk_any _ _ _ lo hi xin _ (HBq.out _ _) (by omega)).mono ?_; rintro e w' ⟨rfl, q2, rfl⟩) | (go_at_call 85; refine (within_any _ _ _ _).mono ?_; rintro e w' ⟨rfl, rfl⟩) | (go_at_call 149; refine (keepOk_any _ _ _ lo hi xkeep _ (HC2.out _ _) (by omega)).mono ?_; rintro e w' ⟨rfl, q, rfl⟩) | go_in)
        go_ret
        refine ⟨?_, ?_⟩
        · first | rfl | (simp; done) | (refine congrArg (fun b => Ending.returned (.bool b)) ?_; rw [Bool.eq_iff_iff]; simp; done)
        · first | exact HD.out _ | exact HDq.out _ _ | exact HD2.out _ _ | exact HD2q.out _ _ _ | exact HDqq.out _ _ _
    · have e7 : (k == 7) = false := by rw [beq_eq_false_iff_ne]; exact q5
      have n7 : (k != 7) = true := by rw [bne_iff_ne]; exact q5
      have p5 : xkeep.length ≤ 0 := by omega
      have d5 : decide (0 < xkeep.length) = false := decide_eq_false (by omega)
      have hv : actB ⟨k, a, r, l, xargs, xin, xkeep⟩ = if k = 2 then inB a 1 4 else if k = 3 ∨ k = 4 ∨ k = 6 then decide (a = 0) else if k = 5 then inB a 0 64 else false := by
        simp [actB, hk, Q1.out, Q2.out, Q3.out, Q4.out, q5, q6]
      rw [hv]
      clear hv
      have HV := Lib.hid (show a = 0 ∨ a ≠ 0 by omega)
      by_cases k2 : k = 2
      · subst k2
        rw [if_pos rfl]
        go_enter Tryz.func84, Tryz.ntmps84
        go_wp2_with (first | (go_at_call 144; refine (implNameOk_any _ _ (by omega)).mono ?_; rintro e w' ⟨rfl, rfl⟩) | (go_at_call 145; refine (long_any _ _ _ lo hi xargs _ (HA.out _) (by omega)).mono ?_; rintro e w' ⟨rfl, q1, rfl⟩) | (go_at_call 146; refine (inputListOk_any _ _ _ lo hi xin _ (HBq.out _ _) (by omega)).mono ?_; rintro e w' ⟨rfl, q2, rfl⟩) | (go_at_call 85; refine (within_any _ _ _ _).mono ?_; rintro e w' ⟨rfl, rfl⟩) | (go_at_call 149; refine (keepOk_any _ _ _ lo hi xkeep _ (HC2.out _ _) (by omega)).mono ?_; rintro e w' ⟨rfl, q, rfl⟩) | go_in)
        go_ret
        refine ⟨?_, ?_⟩
        · first | rfl | (simp; done) | (refine congrArg (fun b => Ending.returned (.bool b)) ?_; rw [Bool.eq_iff_iff]; simp; done)
        · first | exact HD.out _ | exact HDq.out _ _ | exact HD2.out _ _ | exact HD2q.out _ _ _ | exact HDqq.out _ _ _
      have f2 : (k == 2) = false := by rw [beq_eq_false_iff_ne]; exact k2
      rw [if_neg k2]
      by_cases k3 : k = 3
      · subst k3
        rw [if_pos (by omega)]
        go_enter Tryz.func84, Tryz.ntmps84
        go_wp2_with (first | (go_at_call 144; refine (implNameOk_any _ _ (by omega)).mono ?_; rintro e w' ⟨rfl, rfl⟩) | (go_at_call 145; refine (long_any _ _ _ lo hi xargs _ (HA.out _) (by omega)).mono ?_; rintro e w' ⟨rfl, q1, rfl⟩) | (go_at_call 146; refine (inputListOk_any _ _ _ lo hi xin _ (HBq.out _ _) (by omega)).mono ?_; rintro e w' ⟨rfl, q2, rfl⟩) | (go_at_call 85; refine (within_any _ _ _ _).mono ?_; rintro e w' ⟨rfl, rfl⟩) | (go_at_call 149; refine (keepOk_any _ _ _ lo hi xkeep _ (HC2.out _ _) (by omega)).mono ?_; rintro e w' ⟨rfl, q, rfl⟩) | go_in)
        go_ret
        refine ⟨?_, ?_⟩
        · first | rfl | (simp; done) | (refine congrArg (fun b => Ending.returned (.bool b)) ?_; rw [Bool.eq_iff_iff]; simp; done)
        · first | exact HD.out _ | exact HDq.out _ _ | exact HD2.out _ _ | exact HD2q.out _ _ _ | exact HDqq.out _ _ _
      have f3 : (k == 3) = false := by rw [beq_eq_false_iff_ne]; exact k3
      by_cases k4 : k = 4
      · subst k4
        rw [if_pos (by omega)]
        go_enter Tryz.func84, Tryz.ntmps84
        go_wp2_with (first | (go_at_call 144; refine (implNameOk_any _ _ (by omega)).mono ?_; rintro e w' ⟨rfl, rfl⟩) | (go_at_call 145; refine (long_any _ _ _ lo hi xargs _ (HA.out _) (by omega)).mono ?_; rintro e w' ⟨rfl, q1, rfl⟩) | (go_at_call 146; refine (inputListOk_any _ _ _ lo hi xin _ (HBq.out _ _) (by omega)).mono ?_; rintro e w' ⟨rfl, q2, rfl⟩) | (go_at_call 85; refine (within_any _ _ _ _).mono ?_; rintro e w' ⟨rfl, rfl⟩) | (go_at_call 149; refine (keepOk_any _ _ _ lo hi xkeep _ (HC2.out _ _) (by omega)).mono ?_; rintro e w' ⟨rfl, q, rfl⟩) | go_in)
        go_ret
        refine ⟨?_, ?_⟩
        · first | rfl | (simp; done) | (refine congrArg (fun b => Ending.returned (.bool b)) ?_; rw [Bool.eq_iff_iff]; simp; done)
        · first | exact HD.out _ | exact HDq.out _ _ | exact HD2.out _ _ | exact HD2q.out _ _ _ | exact HDqq.out _ _ _
      have f4 : (k == 4) = false := by rw [beq_eq_false_iff_ne]; exact k4
      by_cases k6 : k = 6
      · subst k6
        rw [if_pos (by omega)]
        go_enter Tryz.func84, Tryz.ntmps84
        go_wp2_with (first | (go_at_call 144; refine (implNameOk_any _ _ (by omega)).mono ?_; rintro e w' ⟨rfl, rfl⟩) | (go_at_call 145; refine (long_any _ _ _ lo hi xargs _ (HA.out _) (by omega)).mono ?_; rintro e w' ⟨rfl, q1, rfl⟩) | (go_at_call 146; refine (inputListOk_any _ _ _ lo hi xin _ (HBq.out _ _) (by omega)).mono ?_; rintro e w' ⟨rfl, q2, rfl⟩) | (go_at_call 85; refine (within_any _ _ _ _).mono ?_; rintro e w' ⟨rfl, rfl⟩) | (go_at_call 149; refine (keepOk_any _ _ _ lo hi xkeep _ (HC2.out _ _) (by omega)).mono ?_; rintro e w' ⟨rfl, q, rfl⟩) | go_in)
        go_ret
        refine ⟨?_, ?_⟩
        · first | rfl | (simp; done) | (refine congrArg (fun b => Ending.returned (.bool b)) ?_; rw [Bool.eq_iff_iff]; simp; done)
        · first | exact HD.out _ | exact HDq.out _ _ | exact HD2.out _ _ | exact HD2q.out _ _ _ | exact HDqq.out _ _ _
      have f6 : (k == 6) = false := by rw [beq_eq_false_iff_ne]; exact k6
      rw [if_neg (by omega)]
      by_cases k5 : k = 5
      · subst k5
        rw [if_pos rfl]
        go_enter Tryz.func84, Tryz.ntmps84
        go_wp2_with (first | (go_at_call 144; refine (implNameOk_any _ _ (by omega)).mono ?_; rintro e w' ⟨rfl, rfl⟩) | (go_at_call 145; refine (long_any _ _ _ lo hi xargs _ (HA.out _) (by omega)).mono ?_; rintro e w' ⟨rfl, q1, rfl⟩) | (go_at_call 146; refine (inputListOk_any _ _ _ lo hi xin _ (HBq.out _ _) (by omega)).mono ?_; rintro e w' ⟨rfl, q2, rfl⟩) | (go_at_call 85; refine (within_any _ _ _ _).mono ?_; rintro e w' ⟨rfl, rfl⟩) | (go_at_call 149; refine (keepOk_any _ _ _ lo hi xkeep _ (HC2.out _ _) (by omega)).mono ?_; rintro e w' ⟨rfl, q, rfl⟩) | go_in)
        go_ret
        refine ⟨?_, ?_⟩
        · first | rfl | (simp; done) | (refine congrArg (fun b => Ending.returned (.bool b)) ?_; rw [Bool.eq_iff_iff]; simp; done)
        · first | exact HD.out _ | exact HDq.out _ _ | exact HD2.out _ _ | exact HD2q.out _ _ _ | exact HDqq.out _ _ _
      have f5 : (k == 5) = false := by rw [beq_eq_false_iff_ne]; exact k5
      rw [if_neg k5]
      go_enter Tryz.func84, Tryz.ntmps84
      go_wp2_with (first | (go_at_call 144; refine (implNameOk_any _ _ (by omega)).mono ?_; rintro e w' ⟨rfl, rfl⟩) | (go_at_call 145; refine (long_any _ _ _ lo hi xargs _ (HA.out _) (by omega)).mono ?_; rintro e w' ⟨rfl, q1, rfl⟩) | (go_at_call 146; refine (inputListOk_any _ _ _ lo hi xin _ (HBq.out _ _) (by omega)).mono ?_; rintro e w' ⟨rfl, q2, rfl⟩) | (go_at_call 85; refine (within_any _ _ _ _).mono ?_; rintro e w' ⟨rfl, rfl⟩) | (go_at_call 149; refine (keepOk_any _ _ _ lo hi xkeep _ (HC2.out _ _) (by omega)).mono ?_; rintro e w' ⟨rfl, q, rfl⟩) | go_in)
      go_ret
      refine ⟨?_, ?_⟩
      · first | rfl | (simp; done) | (refine congrArg (fun b => Ending.returned (.bool b)) ?_; rw [Bool.eq_iff_iff]; simp; done)
      · first | exact HD.out _ | exact HDq.out _ _ | exact HD2.out _ _ | exact HD2q.out _ _ _ | exact HDqq.out _ _ _

end Go.Proofs.YtcjaaknnfohllaaGreatDoor
