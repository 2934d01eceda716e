/- Walks of the small predicates: ranges, lists of texts, lists of numbers that rise. -/
import Derived.Test.YtcfmgmbolnifgaaJoinWAa
import Derived.Test.YtcfmgmbolnifgaaJoinWAc
import Derived.Test.YtcfmgmbolnifgaaShelfC
import Derived.Test.YtcfmgmbolnifgaaShelfK
import Derived.Laws.EntriesVeiled
namespace Go.Proofs.Ytcfmgmbolnifgaa
open Go.RowKit

def inB (a lo hi : Int) : Bool := decide (lo ≤ a ∧ a ≤ hi)

theorem inB_true {a lo hi : Int} (h1 : lo ≤ a) (h2 : a ≤ hi) : inB a lo hi = true := by simp [inB, h1, h2]
theorem inB_low {a lo hi : Int} (h : a < lo) : inB a lo hi = false := by simp [inB]; omega
theorem inB_high {a lo hi : Int} (h : hi < a) : inB a lo hi = false := by simp [inB]; omega

theorem within_any (a lo hi : Int) (w : World) : Calls Try.prog 70 #[.int .i64 a, .int .i64 lo, .int .i64 hi] w fun e w' => e = .returned (.bool (inB a lo hi)) ∧ w = w' := by
  by_cases h1 : lo ≤ a
  · by_cases h2 : a ≤ hi
    · rw [inB_true h1 h2]
      go_enter Try.func70, Try.ntmps70
      go_wp2
      go_ret
      exact ⟨by simp, rfl⟩
    · rw [inB_high (by omega)]
      go_enter Try.func70, Try.ntmps70
      go_wp2
      go_ret
      exact ⟨by simp, rfl⟩
  · rw [inB_low (by omega)]
    go_enter Try.func70, Try.ntmps70
    go_wp2
    go_ret
    exact ⟨by simp, rfl⟩

theorem l00In_any (a lo hi : Int) (w : World) : Calls Try.prog 62 #[.int .i64 a, .int .i64 lo, .int .i64 hi] w fun e w' => e = .returned (.bool (inB a lo hi)) ∧ w = w' := by
  by_cases h1 : lo ≤ a
  · by_cases h2 : a ≤ hi
    · rw [inB_true h1 h2]
      go_enter Try.func62, Try.ntmps62
      go_wp2
      go_ret
      exact ⟨by simp, rfl⟩
    · rw [inB_high (by omega)]
      go_enter Try.func62, Try.ntmps62
      go_wp2
      go_ret
      exact ⟨by simp, rfl⟩
  · rw [inB_low (by omega)]
    go_enter Try.func62, Try.ntmps62
    go_wp2
    go_ret
    exact ⟨by simp, rfl⟩

/-- No text of the list is longer than a value. -/
def shortB (x : ByteArray) : Bool := decide (x.size ≤ 64)
def textsB (most : Nat) (l : List ByteArray) : Bool := decide (l.length ≤ most) && l.all shortB

theorem all_take_succ {α : Type} (p : α → Bool) (d : α) (l : List α) (k : Nat) (h : k < l.length) : (l.take (k + 1)).all p = ((l.take k).all p && p (l.getD k d)) := by
  rw [List.take_succ_eq_append_getElem h, List.all_append, List.getD_eq_getElem?_getD, List.getElem?_eq_getElem h]
  simp

theorem all_false_at {α : Type} (p : α → Bool) (d : α) (l : List α) (k : Nat) (h : k < l.length) (hp : p (l.getD k d) = false) : l.all p = false := by
  rw [List.all_eq_false]
  refine ⟨l.getD k d, ?_, by rw [hp]; simp⟩
  rw [List.getD_eq_getElem?_getD, List.getElem?_eq_getElem h]
  exact List.getElem_mem _

set_option maxHeartbeats 400000 in
theorem l32Texts_any (A : Option Addr) (n c lo hi : Nat) (most : Int) (xs : List ByteArray) (w : World) (ha : StrR w lo hi A n xs) (hn : n ≤ 1048576) (hm : 0 ≤ most) (hm2 : most ≤ 1000) (hb : ∀ x ∈ xs, x.size ≤ 1048576) :
    Calls Try.prog 59 #[.slice A n c, .int .i64 most] w fun e w' => e = .returned (.bool (textsB most.toNat xs)) ∧ w = w' := by
  have hl := ha.1
  by_cases hfit : (n : Int) ≤ most
  · have hd : ¬ (most < (n : Int)) := by omega
    go_enter Try.func59, Try.ntmps59
    have HL := Lib.hid hl; clear hl
    go_wp2
    go_loop [5] (fun i => ∃ k : Nat, k ≤ n ∧ i = .int .i64 k ∧ (xs.take k).all shortB = true) (fun i => n - (intOf i).toNat)
    case atStart => exact ⟨0, Nat.zero_le _, rfl, rfl⟩
    case round =>
      obtain ⟨k, hk, rfl, ht⟩ := hrel
      have HT := Lib.hid ht; clear ht
      by_cases hlt : k < n
      · obtain ⟨b, off, rfl, _, _, hcell⟩ := ha.at_ hlt
        have hkl : k < xs.length := by rw [HL.out]; exact hlt
        have hx : (xs.getD k ByteArray.empty).size ≤ 1048576 := by
          rw [List.getD_eq_getElem?_getD, List.getElem?_eq_getElem hkl]
          exact hb _ (List.getElem_mem _)
        have HS := Lib.hid (all_take_succ shortB ByteArray.empty xs k hkl)
        have HF := Lib.hid (all_false_at shortB ByteArray.empty xs k hkl)
        generalize xs.getD k ByteArray.empty = X at *
        clear hb ha
        by_cases hs : X.size ≤ 64
        · have HB := Lib.hid (show shortB X = true by simp [shortB, hs])
          go_wp2
          go_round
          case rel => exact ⟨k + 1, by omega, by go_num, by rw [HS.out, HT.out, HB.out]; rfl⟩
          case measure => simp [intOf]; omega
        · have HB := Lib.hid (show shortB X = false by simp [shortB]; omega)
          go_wp2
          go_ret
          refine ⟨?_, rfl⟩
          unfold textsB
          rw [HF.out HB.out, Bool.and_false]
          rfl
      · go_wp2
        go_ret
        obtain rfl : k = n := by omega
        refine ⟨?_, rfl⟩
        have h1 := HT.out
        rw [List.take_of_length_le (by rw [HL.out]; omega)] at h1
        unfold textsB
        rw [h1, HL.out, decide_eq_true (by omega)]
        rfl
  · have hd : most < (n : Int) := by omega
    go_enter Try.func59, Try.ntmps59
    go_wp2
    go_ret
    refine ⟨?_, rfl⟩
    unfold textsB
    rw [hl, decide_eq_false (by omega)]
    rfl

set_option maxHeartbeats 400000 in
theorem l27Input_any (A : Option Addr) (n c lo hi : Nat) (xs : List ByteArray) (w : World) (ha : StrR w lo hi A n xs) (hn : n ≤ 1048576) (hb : ∀ x ∈ xs, x.size ≤ 1048576) :
    Calls Try.prog 60 #[.slice A n c] w fun e w' => e = .returned (.bool (textsB 8 xs)) ∧ w = w' := by
  have hl := ha.1
  by_cases hfit : n ≤ 8
  · go_enter Try.func60, Try.ntmps60
    have HL := Lib.hid hl; clear hl
    have hdd : decide (8 < (n : Int)) = false := by simp; omega
    go_wp2
    go_loop [3] (fun i => ∃ k : Nat, k ≤ n ∧ i = .int .i64 k ∧ (xs.take k).all shortB = true) (fun i => n - (intOf i).toNat)
    case atStart => exact ⟨0, Nat.zero_le _, rfl, rfl⟩
    case round =>
      obtain ⟨k, hk, rfl, ht⟩ := hrel
      have HT := Lib.hid ht; clear ht
      by_cases hlt : k < n
      · obtain ⟨b, off, rfl, _, _, hcell⟩ := ha.at_ hlt
        have hkl : k < xs.length := by rw [HL.out]; exact hlt
        have hx : (xs.getD k ByteArray.empty).size ≤ 1048576 := by
          rw [List.getD_eq_getElem?_getD, List.getElem?_eq_getElem hkl]
          exact hb _ (List.getElem_mem _)
        have HS := Lib.hid (all_take_succ shortB ByteArray.empty xs k hkl)
        have HF := Lib.hid (all_false_at shortB ByteArray.empty xs k hkl)
        generalize xs.getD k ByteArray.empty = X at *
        clear hb ha
        by_cases hs : X.size ≤ 64
        · have HB := Lib.hid (show shortB X = true by simp [shortB, hs])
          go_wp2
          go_round
          case rel => exact ⟨k + 1, by omega, by go_num, by rw [HS.out, HT.out, HB.out]; rfl⟩
          case measure => simp [intOf]; omega
        · have HB := Lib.hid (show shortB X = false by simp [shortB]; omega)
          go_wp2
          go_ret
          refine ⟨?_, rfl⟩
          unfold textsB
          rw [HF.out HB.out, Bool.and_false]
          rfl
      · go_wp2
        go_ret
        obtain rfl : k = n := by omega
        refine ⟨?_, rfl⟩
        have h1 := HT.out
        rw [List.take_of_length_le (by rw [HL.out]; omega)] at h1
        unfold textsB
        rw [h1, HL.out, decide_eq_true (by omega)]
        rfl
  · have hB : textsB 8 xs = false := by unfold textsB; rw [hl, decide_eq_false hfit]; rfl
    rw [hB]; clear hB
    go_enter Try.func60, Try.ntmps60
    go_wp2
    go_ret
    exact ⟨rfl, rfl⟩

theorem long_pays (w : World) : PredAt Try.prog 110 #[] Value.string (fun x : ByteArray => decide (64 < x.size)) w := by
  intro W x hb
  unfold FnGives
  by_cases h : 64 < x.size
  · go_enter Try.func110, Try.ntmps110
    go_wp2
    go_ret
    exact ⟨by simp [h]; omega, 0, rfl⟩
  · go_enter Try.func110, Try.ntmps110
    go_wp2
    go_ret
    exact ⟨by simp [h]; omega, 0, rfl⟩

theorem any_long (xs : List ByteArray) : (xs.any fun x => decide (64 < x.size)) = !xs.all shortB := by
  induction xs with
  | nil => rfl
  | cons x xs ih =>
    simp only [List.any_cons, List.all_cons, ih, Bool.not_and]
    congr 1
    unfold shortB
    rw [Bool.eq_iff_iff]
    simp

set_option maxHeartbeats 400000 in
theorem long_any (A : Option Addr) (n c lo hi : Nat) (xs : List ByteArray) (w : World) (ha : StrR w lo hi A n xs) (hn : n ≤ 1048576) :
    Calls Try.prog 66 #[.slice A n c] w fun e w' => e = .returned (.bool (!xs.all shortB)) ∧ ∃ q, w' = w.drewN q := by
  have hl := ha.1
  subst hl
  by_cases h0 : 0 < xs.length
  · obtain ⟨b, off, rfl, _, _, hc⟩ := ha.2 h0
    have HC := Lib.hid (fun (W : World) (hW : ∀ j, j < xs.length → W.cell? ⟨b, off + j, none⟩ = some (Value.string (xs.getD j ByteArray.empty))) =>
      Try.slices_ContainsFunc Value.string (fun x : ByteArray => decide (64 < x.size)) 110 #[] (enters_of Try.func110 (by kernel_rfl) rfl) b off xs.length c xs W (long_pays W) (Nat.le_refl _) (by omega)
        (fun j hj => by rw [hW j hj, List.getD_eq_getElem?_getD, List.getElem?_eq_getElem hj]; simp [hj]))
    clear ha
    have HH := Lib.hid hc; clear hc
    go_enter Try.func66, Try.ntmps66
    go_wp2_with fail
    refine (HC.out _ HH.out).mono ?_
    rintro e w1 ⟨rfl, q, rfl⟩
    go_wp2
    go_ret
    refine ⟨?_, q, rfl⟩
    rw [← any_long]
    rfl
  · have hx : xs = [] := List.eq_nil_of_length_eq_zero (by omega)
    subst hx
    have HC := Lib.hid (Try.slices_ContainsFunc_empty (α := ByteArray) A c (.func (.func 110) #[] #[]) w)
    clear ha h0
    go_enter Try.func66, Try.ntmps66
    go_wp2_with fail
    refine HC.out.mono ?_
    rintro e w1 ⟨rfl, rfl⟩
    go_wp2
    go_ret
    exact ⟨rfl, 0, rfl⟩

set_option maxHeartbeats 400000 in
theorem inputListOk_any (A : Option Addr) (n c lo hi : Nat) (xs : List ByteArray) (w : World) (ha : StrR w lo hi A n xs) (hn : n ≤ 1048576) :
    Calls Try.prog 67 #[.slice A n c] w fun e w' => e = .returned (.bool (textsB 8 xs)) ∧ ∃ q, w' = w.drewN q := by
  have hl := ha.1
  by_cases hfit : n ≤ 8
  · have hB : textsB 8 xs = xs.all shortB := by unfold textsB; rw [hl, decide_eq_true hfit]; rfl
    rw [hB]; clear hB hl
    cases hal : xs.all shortB
    all_goals
      go_enter Try.func67, Try.ntmps67
      go_wp2_with fail
      refine (long_any A n c lo hi xs _ ha hn).mono ?_
      rintro e w1 ⟨rfl, q, rfl⟩
      go_wp2_with fail
      go_ret
      exact ⟨rfl, q, rfl⟩
  · have hB : textsB 8 xs = false := by unfold textsB; rw [hl, decide_eq_false hfit]; rfl
    rw [hB]; clear hB hl
    go_enter Try.func67, Try.ntmps67
    go_wp2_with fail
    go_ret
    refine ⟨?_, 0, rfl⟩
    simp
    try omega

/-- The first k numbers rise. -/
def riseTo (l : List Int) (k : Nat) : Bool := (List.range (k - 1)).all fun j => decide (l.getD j 0 < l.getD (j + 1) 0)
def keepB (l : List Int) : Bool := decide (l.length ≤ 400) && riseTo l l.length && decide (l.length = 0 ∨ 0 ≤ l.getD 0 0)

theorem riseTo_succ (l : List Int) (k : Nat) : riseTo l (k + 2) = (riseTo l (k + 1) && decide (l.getD k 0 < l.getD (k + 1) 0)) := by
  unfold riseTo
  rw [show k + 2 - 1 = k + 1 by omega, show k + 1 - 1 = k by omega, List.range_succ, List.all_append]
  simp

theorem riseTo_false {l : List Int} {k n : Nat} (hk : k + 1 < n) (h : ¬ l.getD k 0 < l.getD (k + 1) 0) : riseTo l n = false := by
  unfold riseTo
  rw [List.all_eq_false]
  exact ⟨k, by simp; omega, by simpa using h⟩

set_option maxHeartbeats 400000 in
theorem rising_any (A : Option Addr) (n c lo hi : Nat) (xs : List Int) (w : World) (ha : IntR w lo hi A n xs) (hn : n ≤ 1048576) :
    Calls Try.prog 111 #[.slice A n c] w fun e w' => e = .returned (.bool (riseTo xs n)) ∧ ∃ q, w' = w.drewN q := by
  go_enter Try.func111, Try.ntmps111
  go_wp2
  go_loopw [3] (fun i wr => ∃ k q : Nat, (k + 1 ≤ n ∨ k = 0) ∧ i = .int .i64 (k + 1 : Nat) ∧ riseTo xs (k + 1) = true ∧ wr = w.drewN q) (fun i _ => n - (intOf i).toNat)
  case atStart => exact ⟨0, 0, .inr rfl, rfl, rfl, rfl⟩
  case round =>
    obtain ⟨k, q, hk, rfl, ht, rfl⟩ := hrel
    have HT := Lib.hid ht; clear ht
    by_cases hlt : k + 1 < n
    · obtain ⟨b, off, rfl, _, _, hc1⟩ := ha.at_ hlt
      obtain ⟨b', off', e, _, _, hc0⟩ := ha.at_ (show k < n by omega)
      injection e with e
      injection e with e1 e2
      subst e1 e2
      have HS := Lib.hid (riseTo_succ xs k)
      have HF := Lib.hid (fun h => riseTo_false (l := xs) (k := k) (n := n) hlt h)
      have hi1 : ((k + 1 : Nat) : Int) < (n : Int) := by omega
      have hi0 : ((k + 1 : Nat) : Int) - 1 < (n : Int) := by omega
      generalize xs.getD k 0 = X at *
      generalize xs.getD (k + 1) 0 = Y at *
      have w1 : IntKind.i64.wrap (((k + 1 : Nat) : Int) - 1) = (k : Int) := by rw [IntWalk.i64_in _ (by omega)]; omega
      by_cases hxy : X < Y
      · have HX := Lib.hid hxy
        go_wp2
        go_quiet (fail)
        clear w1
        go_wp2
        go_roundw
        case rel => exact ⟨k + 1, _, .inl (by omega), by go_num, by rw [HS.out, HT.out, decide_eq_true HX.out]; rfl, rfl⟩
        case measure => simp [intOf]; omega
      · go_wp2
        go_quiet (fail)
        clear w1
        go_wp2
        go_ret
        refine ⟨?_, _, by rw [World.drewN_drewN]⟩
        rw [HF.out (by omega)]
        rfl
    · go_wp2
      go_ret
      refine ⟨?_, q, rfl⟩
      have : riseTo xs n = true := by
        rcases hk with hk | hk
        · obtain rfl : n = k + 1 := by omega
          exact HT.out
        · subst hk
          have h1 : n = 0 ∨ n = 1 := by omega
          rcases h1 with rfl | rfl <;> rfl
      rw [this]
      rfl

set_option maxHeartbeats 1000000 in
theorem keepOk_any (A : Option Addr) (n c lo hi : Nat) (xs : List Int) (w : World) (ha : IntR w lo hi A n xs) (hn : n ≤ 1048576) :
    Calls Try.prog 71 #[.slice A n c] w fun e w' => e = .returned (.bool (keepB xs)) ∧ ∃ q, w' = w.drewN q := by
  have hl := ha.1
  subst hl
  by_cases h4 : xs.length ≤ 400
  · cases hr : riseTo xs xs.length
    · have hB : keepB xs = false := by unfold keepB; rw [hr]; simp
      rw [hB]; clear hB
      go_enter Try.func71, Try.ntmps71
      go_wp2_with fail
      refine (rising_any A _ c lo hi xs _ ha hn).mono ?_
      rintro e w1 ⟨rfl, q, rfl⟩
      go_wp2_with fail
      go_ret
      exact ⟨rfl, q, rfl⟩
    · by_cases h0 : xs.length = 0
      · have hB : keepB xs = true := by unfold keepB; rw [hr]; simp [h0]
        rw [hB]; clear hB
        have hz : ((xs.length : Int) == 0) = true := by rw [beq_iff_eq]; omega
        have H0 := Lib.hid h0; clear h0
        go_enter Try.func71, Try.ntmps71
        go_wp2_with fail
        refine (rising_any A _ c lo hi xs _ ha hn).mono ?_
        rintro e w1 ⟨rfl, q, rfl⟩
        go_wp2_with fail
        go_ret
        exact ⟨rfl, q, rfl⟩
      · have hz : ((xs.length : Int) == 0) = false := by rw [beq_eq_false_iff_ne]; omega
        obtain ⟨b, off, rfl, _, _, hc⟩ := ha.at_ (show 0 < xs.length by omega)
        have hB : keepB xs = decide (0 ≤ xs.getD 0 0) := by unfold keepB; rw [hr, decide_eq_true h4]; simp [h0]
        rw [hB]; clear hB
        have HA := Lib.hid ha; clear ha
        rw [Nat.add_zero] at hc
        have hp0 : (0 : Int) < (xs.length : Int) := by omega
        generalize xs.getD 0 0 = X at *
        by_cases hX : 0 ≤ X
        all_goals
          go_enter Try.func71, Try.ntmps71
          go_wp2_with fail
          refine (rising_any _ _ c lo hi xs _ HA.out hn).mono ?_
          rintro e w1 ⟨rfl, q, rfl⟩
          go_wp2_with fail
          go_ret
          exact ⟨by simp [hX], q, rfl⟩
  · have hB : keepB xs = false := by unfold keepB; rw [decide_eq_false h4]; simp
    rw [hB]; clear hB
    go_enter Try.func71, Try.ntmps71
    go_wp2_with fail
    go_ret
    refine ⟨?_, 0, rfl⟩
    simp
    try omega

set_option maxHeartbeats 2000000 in
set_option maxRecDepth 100000 in
theorem l32Keep_any (A : Option Addr) (n c lo hi : Nat) (xs : List Int) (w : World) (ha : IntR w lo hi A n xs) (hn : n ≤ 1048576) :
    Calls Try.prog 63 #[.slice A n c] w fun e w' => e = .returned (.bool (keepB xs)) ∧ ∃ q, w' = w.drewN q := by
  have hl := ha.1
  have HL := Lib.hid hl; clear hl
  go_enter Try.func63, Try.ntmps63
  go_wp2
  go_loopw [3] (fun i wr => ∃ k q : Nat, k ≤ n ∧ k ≤ 401 ∧ i = .int .i64 k ∧ riseTo xs k = true ∧ (k = 0 ∨ (0 ≤ xs.getD 0 0 ∧ 0 ≤ xs.getD (k - 1) 0)) ∧ wr = w.drewN q) (fun i _ => n - (intOf i).toNat)
  case atStart => exact ⟨0, 0, Nat.zero_le _, by omega, rfl, rfl, .inl rfl, rfl⟩
  case round =>
    obtain ⟨k, q, hk, hk4, rfl, ht, hp, rfl⟩ := hrel
    have HT := Lib.hid ht; have HP := Lib.hid hp; clear ht hp
    by_cases hlt : k < n
    · by_cases h401 : k ≤ 400
      · obtain ⟨b, off, rfl, _, _, hc⟩ := ha.at_ hlt
        have hi1 : (k : Int) < (n : Int) := by omega
        by_cases h0 : k = 0
        · subst h0
          rw [Nat.add_zero] at hc
          have hi0 : (0 : Int) < (n : Int) := by omega
          have HX := Lib.hid (show ∀ x, xs.getD 0 0 = x → 0 ≤ x → riseTo xs (0 + 1) = true ∧ (0 ≤ xs.getD 0 0 ∧ 0 ≤ xs.getD (0 + 1 - 1) 0) from fun x hx h => ⟨rfl, by rw [hx]; exact h, by rw [show 0 + 1 - 1 = 0 from rfl, hx]; exact h⟩)
          have HN := Lib.hid (show ∀ x, xs.getD 0 0 = x → x < 0 → keepB xs = false from fun x hx h => by
            unfold keepB
            rw [hx, decide_eq_false (p := _ ∨ _) (by rw [HL.out]; omega)]
            simp)
          generalize hXe : xs.getD 0 0 = X at *
          have HXe := Lib.hid hXe; clear hXe
          by_cases hneg : X < 0
          · have hd : decide (X < 0) = true := by simpa using hneg
            go_wp2
            go_quiet (fail)
            go_wp2
            go_ret
            refine ⟨?_, _, by rw [World.drewN_drewN]⟩
            rw [HN.out _ rfl hneg]
            rfl
          · have hd : decide (X < 0) = false := by simpa using hneg
            have hd0 : decide (0 < ((0 : Nat) : Int)) = false := by decide
            have hdz : decide ((0 : Int) < 0) = false := by decide
            go_wp2
            go_quiet (fail)
            go_wp2
            go_roundw
            case rel => exact ⟨0 + 1, _, by omega, by omega, by go_num, (HX.out _ rfl (by omega)).1, .inr (by rw [HXe.out] at *; exact (HX.out _ rfl (by omega)).2), rfl⟩
            case measure => simp [intOf]; omega
        · obtain ⟨j, rfl⟩ : ∃ j, k = j + 1 := ⟨k - 1, by omega⟩
          obtain ⟨b', off', e, _, _, hc0⟩ := ha.at_ (show j < n by omega)
          injection e with e
          injection e with e1 e2
          subst e1 e2
          have hi0 : ((j + 1 : Nat) : Int) - 1 < (n : Int) := by omega
          have w1 : IntKind.i64.wrap (((j + 1 : Nat) : Int) - 1) = (j : Int) := by rw [IntWalk.i64_in _ (by omega)]; omega
          have hgt : decide (0 < ((j + 1 : Nat) : Int)) = true := by rw [decide_eq_true_iff]; omega
          have hgt2 : decide (0 < (j : Int) + 1) = true := by rw [decide_eq_true_iff]; omega
          have hp1 : 0 ≤ xs.getD 0 0 ∧ 0 ≤ xs.getD j 0 := by
            rcases HP.out with h | h
            · omega
            · exact h
          have HF := Lib.hid (show ¬ xs.getD j 0 < xs.getD (j + 1) 0 → keepB xs = false from fun h => by
            unfold keepB
            rw [riseTo_false (l := xs) (k := j) (n := xs.length) (by rw [HL.out]; omega) h]
            simp)
          have HS := Lib.hid (riseTo_succ xs j)
          have HP0 := Lib.hid hp1.1
          have hX0 := hp1.2
          have HE := Lib.hid (show xs.getD (j + 1 + 1 - 1) 0 = xs.getD (j + 1) 0 from rfl)
          clear hp1 HP ha
          generalize xs.getD j 0 = X at *
          generalize xs.getD (j + 1) 0 = Y at *
          by_cases hneg : Y < 0
          · have hd : decide (Y < 0) = true := by simpa using hneg
            go_wp2
            go_quiet (fail)
            clear w1
            go_wp2
            go_ret
            refine ⟨?_, _, by rw [World.drewN_drewN]⟩
            rw [HF.out (by omega)]
            rfl
          · have hd : decide (Y < 0) = false := by simpa using hneg
            by_cases hxy : X < Y
            · have HX := Lib.hid hxy
              have hd2 : decide (Y ≤ X) = false := by simpa using hxy
              go_wp2
              go_quiet (fail)
              clear w1
              go_wp2
              go_roundw
              case rel => exact ⟨j + 1 + 1, _, by omega, by omega, by go_num, by rw [HS.out, HT.out, decide_eq_true HX.out]; rfl, .inr ⟨HP0.out, by rw [HE.out]; omega⟩, rfl⟩
              case measure => simp [intOf]; omega
            · have hd2 : decide (Y ≤ X) = true := by simpa using hxy
              go_wp2
              go_quiet (fail)
              clear w1
              go_wp2
              go_ret
              refine ⟨?_, _, by rw [World.drewN_drewN]⟩
              rw [HF.out (by omega)]
              rfl
      · have HB := Lib.hid (show keepB xs = false by unfold keepB; rw [HL.out, decide_eq_false (by omega)]; rfl)
        go_wp2
        go_ret
        refine ⟨?_, q, rfl⟩
        rw [HB.out]
        simp
        try omega
    · obtain rfl : k = n := by omega
      by_cases h4 : k ≤ 400
      · have HB := Lib.hid (show keepB xs = true by
          unfold keepB
          rw [HL.out, HT.out, decide_eq_true h4, decide_eq_true (p := _ ∨ _) (by rcases HP.out with h | h; exact .inl h; exact .inr h.1)]
          rfl)
        go_wp2
        go_ret
        refine ⟨?_, q, rfl⟩
        rw [HB.out]
        simp
        try omega
      · have HB := Lib.hid (show keepB xs = false by unfold keepB; rw [HL.out, decide_eq_false h4]; rfl)
        go_wp2
        go_ret
        refine ⟨?_, q, rfl⟩
        rw [HB.out]
        simp
        try omega

end Go.Proofs.Ytcfmgmbolnifgaa

/- Walks: l31Line, l31File of the reference; fileOk of the program. -/
namespace Go.Proofs.Ytcfmgmbolnifgaa
open Go.RowKit Go.Shelf

def noLf (l : List UInt8) : Bool := l.all (· != 10)
def lineB (s : ByteArray) : Bool := decide (s.size ≤ 80) && noLf s.data.toList
def filB (f : Fil) : Bool := nameB f.name && decide (f.lines.length ≤ 20) && lineB f.part && inB f.at_ 0 f.lines.length && f.lines.all lineB

theorem take_snoc (s : ByteArray) (k : Nat) (h : k < s.size) : s.data.toList.take (k + 1) = s.data.toList.take k ++ [s[k]] := by
  rw [List.take_succ_eq_append_getElem (by simpa using h)]; rfl
theorem noLf_snoc (s : ByteArray) (k : Nat) (h : k < s.size) : noLf (s.data.toList.take (k + 1)) = (noLf (s.data.toList.take k) && (s[k] != 10)) := by
  rw [take_snoc s k h]; simp [noLf]
theorem noLf_at (s : ByteArray) (k : Nat) (h : k < s.size) (h10 : s[k].toNat = 10) : noLf s.data.toList = false := by
  unfold noLf
  rw [List.all_eq_false]
  refine ⟨s[k], ?_, ?_⟩
  · have : s[k] = s.data.toList[k]'(by simpa using h) := rfl
    rw [this]; exact List.getElem_mem _
  · have : s[k] = 10 := by
      apply UInt8.toNat_inj.1; rw [h10]; rfl
    simp [this]
theorem indexByte_lf (l : List UInt8) : decide (0 ≤ Lib.indexByte l 10) = !noLf l := by
  induction l with
  | nil => rfl
  | cons b l ih =>
    have h1 : ∀ m : List UInt8, -1 ≤ Lib.indexByte m 10 := by
      intro m
      induction m with
      | nil => simp [Lib.indexByte]
      | cons b m ihm => unfold Lib.indexByte; split <;> (try split) <;> omega
    have h2 := h1 l
    have e : noLf (b :: l) = ((b != 10) && noLf l) := by simp [noLf]
    rw [e, Bool.not_and, ← ih]
    have eq : Lib.indexByte (b :: l) 10 = if b == 10 then 0 else if Lib.indexByte l 10 == -1 then -1 else Lib.indexByte l 10 + 1 := rfl
    rw [eq]
    by_cases hb : b = 10
    · subst hb; simp
    · rw [if_neg (by simpa using hb)]
      have hb' : (b != 10) = true := by simpa using hb
      rw [hb', Bool.not_true, Bool.false_or]
      split
      · rename_i h3
        have : Lib.indexByte l 10 = -1 := by simpa using h3
        rw [this]
      · rename_i h3
        have : Lib.indexByte l 10 ≠ -1 := by simpa using h3
        rw [decide_eq_decide]; omega

set_option maxHeartbeats 1000000 in
theorem l31Line_any (s : ByteArray) (w : World) (hs : s.size ≤ 9223372036854775807) :
    Calls Try.prog 120 #[.string s] w fun e w' => e = .returned (.bool (lineB s)) ∧ w = w' := by
  go_enter Try.func120, Try.ntmps120
  go_wp2
  go_loop [3] (fun i => ∃ k : Nat, k ≤ s.size ∧ i = .int .i64 k ∧ noLf (s.data.toList.take k) = true) (fun i => s.size - (intOf i).toNat)
  case atStart => exact ⟨0, Nat.zero_le _, rfl, rfl⟩
  case round =>
    obtain ⟨k, hk, rfl, ht⟩ := hrel
    have HT := Lib.hid ht; clear ht
    by_cases hlt : k < s.size
    · have HS := Lib.hid (noLf_snoc s k hlt)
      have HN := Lib.hid (noLf_at s k hlt)
      by_cases h10 : s[k].toNat = 10
      · have h10b : ((s[k].toNat : Int) == 10) = true := by rw [beq_iff_eq]; omega
        have H10 := Lib.hid h10; clear h10
        go_wp2
        go_ret
        exact ⟨by rw [show lineB s = false by unfold lineB; rw [HN.out H10.out, Bool.and_false]]; rfl, rfl⟩
      · have h10b : ((s[k].toNat : Int) == 10) = false := by rw [beq_eq_false_iff_ne]; omega
        have hne : (s[k] != 10) = true := by
          rw [bne_iff_ne]; intro e; rw [e] at h10; exact h10 rfl
        have HNE := Lib.hid hne; clear hne
        go_wp2
        go_round
        case rel => exact ⟨k + 1, by omega, by go_num, by rw [HS.out, HT.out, HNE.out]; rfl⟩
        case measure => simp [intOf]; omega
    · obtain rfl : k = s.size := by omega
      have hall : noLf s.data.toList = true := by
        have := HT.out
        rwa [List.take_of_length_le (by simp)] at this
      have HA := Lib.hid hall; clear hall
      by_cases h80 : s.size ≤ 80
      · go_wp2
        go_ret
        refine ⟨congrArg (fun b => Ending.returned (.bool b)) ?_, rfl⟩
        rw [show lineB s = true by unfold lineB; rw [HA.out, Bool.and_true]; simp [h80]]
        first | rfl | (simp; omega)
      · go_wp2
        go_ret
        refine ⟨congrArg (fun b => Ending.returned (.bool b)) ?_, rfl⟩
        rw [show lineB s = false by unfold lineB; rw [HA.out, Bool.and_true]; simp [h80]]
        first | rfl | (simp; omega)

set_option maxHeartbeats 4000000 in
theorem l31File_any (f : Fil) (v : Value) (lo hi : Nat) (w : World) (hx : FilR w lo hi v f) (hhi : hi ≤ w.heap.size) (hs : FilSmall f) :
    Calls Try.prog 82 #[v] w fun e w' => e = .returned (.bool (filB f)) ∧ Below w.heap.size w w' := by
  obtain ⟨name, lines, part, at_⟩ := f
  obtain ⟨A, c, rfl, hA⟩ := hx
  obtain ⟨h1, h2, h3, h4⟩ := hs
  dsimp only at *
  have hbo := (Below.refl w.heap.size w).alloc (Nat.le_refl _) (.cells #[.string name, .slice A lines.length c, .string part, .int .i64 at_] 91)
  have HA := Lib.hid (hA.below hbo hhi)
  have HD := Lib.hid hbo
  have H4 := Lib.hid h4
  clear hA hbo h4
  go_enter Try.func82, Try.ntmps82
  go_wp2_with fail
  go_loop [3] (fun i => ∃ k : Nat, k ≤ lines.length ∧ k ≤ 21 ∧ i = .int .i64 k ∧ (lines.take k).all lineB = true) (fun i => lines.length - (intOf i).toNat)
  case atStart => exact ⟨0, Nat.zero_le _, by omega, rfl, rfl⟩
  case round =>
    obtain ⟨k, hk, hk21, rfl, ht⟩ := hrel
    have HT := Lib.hid ht; clear ht
    by_cases hlt : k < lines.length ∧ k ≤ 20
    · obtain ⟨hlt, hk20⟩ := hlt
      obtain ⟨b, off, rfl, _, hb, hcell⟩ := HA.out.at_ hlt
      have HS := Lib.hid (all_take_succ lineB ByteArray.empty lines k hlt)
      have HF := Lib.hid (all_false_at lineB ByteArray.empty lines k hlt)
      have hsz := H4.out _ (getD_mem (d := ByteArray.empty) hlt)
      generalize lines.getD k ByteArray.empty = X at *
      cases hX : lineB X
      · have HX := Lib.hid hX; clear hX
        go_wp2_with fail
        refine (l31Line_any X _ (by omega)).mono ?_
        rintro e1 w1 ⟨rfl, rfl⟩
        rw [HX.out]
        go_wp2_with fail
        go_ret
        exact ⟨by rw [show filB ⟨name, lines, part, at_⟩ = false by unfold filB; dsimp only; rw [HF.out HX.out, Bool.and_false]]; rfl, HD.out⟩
      · have HX := Lib.hid hX; clear hX
        go_wp2_with fail
        refine (l31Line_any X _ (by omega)).mono ?_
        rintro e1 w1 ⟨rfl, rfl⟩
        rw [HX.out]
        go_wp2_with fail
        go_round
        case rel => exact ⟨k + 1, by omega, by omega, by go_num, by rw [HS.out, HT.out, HX.out]; rfl⟩
        case measure => simp [intOf]; omega
    · have hres : filB ⟨name, lines, part, at_⟩ = (nameB name && decide (lines.length ≤ 20) && lineB part && inB at_ 0 lines.length) := by
        unfold filB
        dsimp only
        by_cases h20 : lines.length ≤ 20
        · obtain rfl : k = lines.length := by omega
          have := HT.out
          rw [List.take_length] at this
          rw [this, Bool.and_true]
        · simp [h20]
      have HRES := Lib.hid hres; clear hres
      have hcond : (k < lines.length ∧ 20 < k) ∨ (lines.length ≤ k) := by omega
      clear hlt
      cases hN : nameB name <;> cases hP : lineB part <;> cases hI : inB at_ 0 lines.length <;> (by_cases h20 : lines.length ≤ 20) <;> rcases hcond with ⟨hc1, hc2⟩ | hc
      all_goals (try (exfalso; omega))
      all_goals
        go_wp2_with (first | (go_at_call 58; refine (specNameOk_any name _ (by omega)).mono ?_; rintro e1 w1 ⟨rfl, rfl⟩) | (go_at_call 120; refine (l31Line_any part _ (by omega)).mono ?_; rintro e1 w1 ⟨rfl, rfl⟩) | (go_at_call 62; refine (l00In_any at_ 0 lines.length _).mono ?_; rintro e1 w1 ⟨rfl, rfl⟩))
        go_ret
        refine ⟨congrArg (fun b => Ending.returned (.bool b)) ?_, HD.out⟩
        rw [HRES.out, hN, hP, hI]
        first | rfl | (simp; done) | (simp; omega)

end Go.Proofs.Ytcfmgmbolnifgaa

/- Walks: fileOk of the program. -/
namespace Go.Proofs.Ytcfmgmbolnifgaa
open Go.RowKit Go.Shelf

theorem swap_same {P : Program} {f : FuncId} {args : Array Value} {w : World} {r : Ending} (h : Calls P f args w fun e w' => e = r ∧ w = w') : Calls P f args w fun e w' => e = r ∧ w' = w := h.mono fun _ _ ⟨he, hw⟩ => ⟨he, hw.symm⟩

theorem Stand.boxset {w0 w : World} {Fs : Facts} (h : Stand w0 Fs w) (t : TypeId) (x u : Value) :
    Stand w0 ((w.heap.size, w.heap.size + 1, fun W => Blk W w.heap.size t #[u]) :: Fs) ((w.alloc (.cells #[x] t)).setCell ⟨w.heap.size, 0, none⟩ u) :=
  (h.below (((Below.refl _ _).alloc (Nat.le_refl _) _).setCell (Nat.le_refl _) u)).add _ _ _ (loc_blk _ _ _) (by simp [World.setCell]) ((Blk.new w t #[x]).set_ 0 u)

set_option maxHeartbeats 1000000 in
theorem fileOk1_any (s : ByteArray) (w : World) : Calls Try.prog 123 #[.string s] w fun e w' => e = .returned (.bool (lineB s)) ∧ w = w' := by
  have HC := Lib.hid (fun W => Try.strings_Contains_one s 10 W)
  rw [indexByte_lf] at HC
  by_cases h80 : s.size ≤ 80
  · have HR := Lib.hid (show lineB s = noLf s.data.toList by unfold lineB; rw [decide_eq_true h80, Bool.true_and])
    generalize noLf s.data.toList = N at *
    go_enter Try.func123, Try.ntmps123
    go_wp2_with (go_at_call 124; refine (HC.out _).mono ?_; rintro e1 w1 ⟨rfl, rfl⟩)
    go_ret
    refine ⟨congrArg (fun b => Ending.returned (.bool b)) ?_, rfl⟩
    rw [HR.out]
    try (cases N <;> rfl)
  · have HR := Lib.hid (show lineB s = false by unfold lineB; rw [decide_eq_false h80, Bool.false_and])
    go_enter Try.func123, Try.ntmps123
    go_wp2_with fail
    go_ret
    refine ⟨congrArg (fun b => Ending.returned (.bool b)) ?_, rfl⟩
    rw [HR.out]
    try (first | rfl | (simp; omega))

set_option maxHeartbeats 1000000 in
theorem fileOk2_pays (g : Nat) (w : World) (hg : g < w.heap.size) (hc : w.cell? ⟨g, 0, none⟩ = some (.func (.func 123) #[] #[])) :
    PredAt Try.prog 126 #[.pointer (some ⟨g, 0, none⟩)] Value.string (fun x : ByteArray => !lineB x) w := by
  intro W x hb
  unfold FnGives
  have hc' := (hb.cell (p := ⟨g, 0, none⟩) hg).trans hc
  clear hb hc
  go_enter Try.func126, Try.ntmps126
  go_wp2_with (go_at_call 123; refine (fileOk1_any x _).mono ?_; rintro e1 w1 ⟨rfl, rfl⟩)
  go_ret
  exact ⟨rfl, 0, rfl⟩

theorem countStr_any (A : Option Addr) (n c : Nat) (w : World) : Calls Try.prog 125 #[.slice A n c] w fun e w' => e = .returned (.int .i64 n) ∧ w = w' := by
  go_enter Try.func125, Try.ntmps125
  go_wp2
  go_ret
  exact ⟨rfl, rfl⟩
theorem countFil_any (A : Option Addr) (n c : Nat) (w : World) : Calls Try.prog 85 #[.slice A n c] w fun e w' => e = .returned (.int .i64 n) ∧ w = w' := by
  go_enter Try.func85, Try.ntmps85
  go_wp2
  go_ret
  exact ⟨rfl, rfl⟩

theorem any_lines (xs : List ByteArray) : (xs.any fun x => !lineB x) = !xs.all lineB := by
  induction xs with
  | nil => rfl
  | cons x xs ih => simp only [List.any_cons, List.all_cons, ih, Bool.not_and]

set_option maxHeartbeats 4000000 in
set_option maxRecDepth 100000 in
theorem fileOk_any (f : Fil) (v : Value) (lo hi : Nat) (w : World) (hx : FilR w lo hi v f) (hhi : hi ≤ w.heap.size) (hs : FilSmall f) :
    Calls Try.prog 87 #[v] w fun e w' => e = .returned (.bool (filB f)) ∧ Below w.heap.size w w' := by
  obtain ⟨name, lines, part, at_⟩ := f
  obtain ⟨A, c, rfl, hA⟩ := hx
  obtain ⟨h1, h2, h3, h4⟩ := hs
  dsimp only at *
  have R0 := (((Stand.nil w).add lo hi _ (loc_strR0 lo hi A _ lines) hhi hA).box 91 #[.string name, .slice A lines.length c, .string part, .int .i64 at_])
  have R1 := R0.box 26 #[.func (.func 123) #[] #[]]
  rw [heap_size_alloc1] at R1
  have HR1 := Lib.hid R1
  clear hA R0 R1 h4
  have HRES := Lib.hid (show filB ⟨name, lines, part, at_⟩ = (nameB name && decide (lines.length ≤ 20) && lineB part && inB at_ 0 lines.length && lines.all lineB) from rfl)
  have HN := Lib.hid (fun W => swap_same (implNameOk_any name W (by omega)))
  have HP := Lib.hid (fun W => swap_same (fileOk1_any part W))
  have HI := Lib.hid (fun W => swap_same (within_any at_ 0 lines.length W))
  have HK := Lib.hid (fun W => swap_same (countStr_any A lines.length c W))
  generalize filB ⟨name, lines, part, at_⟩ = RES at *
  have no : ∀ b : Bool, b = false → RES = b → Ending.returned (.bool false) = Ending.returned (.bool RES) := fun b h1 h2 => by rw [h2, h1]
  have NO := Lib.hid no; clear no
  cases hN : nameB name <;> rw [hN] at HN HRES <;> clear hN
  · go_enter Try.func87, Try.ntmps87
    go_wp2_with fail
    go_quiet ((first | (go_at_call 65; exact Calls.quiet_of_same (HN.out _))))
    go_wp2_with fail
    go_ret
    exact ⟨NO.out _ rfl (by rw [HRES.out]; rfl), HR1.out.1.trans ((below_drewN' _ _).mono HR1.out.1.size)⟩
  by_cases h20 : lines.length ≤ 20
  case neg =>
    have n20 : decide (20 < lines.length) = true := by simp; omega
    have m20 : decide ((20 : Int) < (lines.length : Int)) = true := by simp; omega
    go_enter Try.func87, Try.ntmps87
    go_wp2_with fail
    go_quiet ((first | (go_at_call 65; exact Calls.quiet_of_same (HN.out _))))
    go_wp2_with fail
    go_ret
    exact ⟨NO.out _ rfl (by rw [HRES.out]; simp [h20]), HR1.out.1.trans ((below_drewN' _ _).mono HR1.out.1.size)⟩
  have n20 : decide (20 < lines.length) = false := by simp; omega
  have m20 : decide ((20 : Int) < (lines.length : Int)) = false := by simp; omega
  cases hP : lineB part <;> rw [hP] at HP HRES <;> clear hP
  · go_enter Try.func87, Try.ntmps87
    go_wp2_with fail
    go_quiet ((first | (go_at_call 65; exact Calls.quiet_of_same (HN.out _)) | (go_at_call 123; exact Calls.quiet_of_same (HP.out _))))
    go_wp2_with fail
    go_ret
    exact ⟨NO.out _ rfl (by rw [HRES.out]; simp), HR1.out.1.trans ((below_drewN' _ _).mono HR1.out.1.size)⟩
  cases hI : inB at_ 0 lines.length <;> rw [hI] at HI HRES <;> clear hI
  · go_enter Try.func87, Try.ntmps87
    go_wp2_with fail
    go_quiet ((first | (go_at_call 65; exact Calls.quiet_of_same (HN.out _)) | (go_at_call 123; exact Calls.quiet_of_same (HP.out _)) | (go_at_call 125; exact Calls.quiet_of_same (HK.out _)) | (go_at_call 70; exact Calls.quiet_of_same (HI.out _))))
    go_wp2_with fail
    go_ret
    exact ⟨NO.out _ rfl (by rw [HRES.out]; simp), HR1.out.1.trans ((below_drewN' _ _).mono HR1.out.1.size)⟩
  have HRES2 := Lib.hid (show RES = lines.all lineB by rw [HRES.out]; simp [h20])
  clear HRES NO
  go_enter Try.func87, Try.ntmps87
  go_wp2_with fail
  go_quiet ((first | (go_at_call 65; exact Calls.quiet_of_same (HN.out _)) | (go_at_call 123; exact Calls.quiet_of_same (HP.out _)) | (go_at_call 125; exact Calls.quiet_of_same (HK.out _)) | (go_at_call 70; exact Calls.quiet_of_same (HI.out _))))
  have HR2 := Lib.hid (HR1.out.below (below_drewN' _ nq))
  generalize World.drewN _ nq = w2 at *
  clear HR1 HN HP HI HK
  have f1 := (HR2.out.get 1 rfl).cell
  by_cases h0 : 0 < lines.length
  · obtain ⟨b, off, rfl, _, hbh, hc⟩ := (HR2.out.get 2 rfl).2 h0
    have HC := Lib.hid (Try.slices_ContainsFunc Value.string (fun x : ByteArray => !lineB x) 126 #[.pointer (some ⟨w.heap.size + 1, 0, none⟩)] (enters_of Try.func126 (by kernel_rfl) rfl) b off lines.length c lines w2 (fileOk2_pays _ w2 (HR2.out.get 0 rfl).lt ((HR2.out.get 0 rfl).cell 0)) (Nat.le_refl _) (by omega)
        (fun j hj => by rw [hc j hj, List.getD_eq_getElem?_getD, List.getElem?_eq_getElem hj]; simp [hj]))
    clear hc
    go_wp2_with fail
    refine HC.out.mono ?_
    rintro e w3 ⟨rfl, q, rfl⟩
    rw [List.take_length, any_lines, ← HRES2.out]
    go_wp2_with fail
    go_ret
    exact ⟨by simp, HR2.out.1.trans ((below_drewN' _ _).mono HR2.out.1.size)⟩
  · have hx : lines = [] := List.eq_nil_of_length_eq_zero (by omega)
    subst hx
    have HC := Lib.hid (Try.slices_ContainsFunc_empty (α := ByteArray) A c (.func (.func 126) #[] #[.pointer (some ⟨w.heap.size + 1, 0, none⟩)]) w2)
    go_wp2_with fail
    refine HC.out.mono ?_
    rintro e w3 ⟨rfl, rfl⟩
    have HR := HRES2.out
    go_wp2_with fail
    go_ret
    exact ⟨by rw [HR]; rfl, HR2.out.1⟩

end Go.Proofs.Ytcfmgmbolnifgaa
