/- Walks for NewDevices: keys; devices without files. -/
import Derived.Test.YtcfmgmbolnifgaaScreenJ
import Derived.Test.YtcfmgmbolnifgaaActs
namespace Go.Proofs.Ytcfmgmbolnifgaa
open Go.RowKit

def keyB (x : ByteArray) : Bool := decide (x.size ≤ 80)
def keysB (xs : List ByteArray) : Bool := xs.all keyB

set_option maxHeartbeats 400000 in
theorem l31Keys_any (A : Option Addr) (n c lo hi : Nat) (xs : List ByteArray) (w : World) (ha : StrR w lo hi A n xs) (hn : n ≤ 1048576) (hb : ∀ x ∈ xs, x.size ≤ 1048576) :
    Calls Try.prog 83 #[.slice A n c] w fun e w' => e = .returned (.bool (keysB xs)) ∧ w = w' := by
  have hl := ha.1
  go_enter Try.func83, Try.ntmps83
  have HL := Lib.hid hl; clear hl
  go_wp2
  go_loop [3] (fun i => ∃ k : Nat, k ≤ n ∧ i = .int .i64 k ∧ (xs.take k).all keyB = true) (fun i => n - (intOf i).toNat)
  case atStart => exact ⟨0, Nat.zero_le _, rfl, rfl⟩
  case round =>
    obtain ⟨k, hk, rfl, ht⟩ := hrel
    have HT := Lib.hid ht; clear ht
    by_cases hlt : k < n
    · obtain ⟨b, off, rfl, _, _, hcell⟩ := ha.at_ hlt
      have hkl : k < xs.length := by rw [HL.out]; exact hlt
      have hx : (xs.getD k ByteArray.empty).size ≤ 1048576 := by
        rw [List.getD_eq_getElem?_getD, List.getElem?_eq_getElem hkl]
        exact hb _ (List.getElem_mem _)
      have HS := Lib.hid (all_take_succ keyB ByteArray.empty xs k hkl)
      have HF := Lib.hid (all_false_at keyB ByteArray.empty xs k hkl)
      generalize xs.getD k ByteArray.empty = X at *
      clear hb ha
      by_cases hs : X.size ≤ 80
      · have HB := Lib.hid (show keyB X = true by simp [keyB, hs])
        go_wp2
        go_round
        case rel => exact ⟨k + 1, by omega, by go_num, by rw [HS.out, HT.out, HB.out]; rfl⟩
        case measure => simp [intOf]; omega
      · have HB := Lib.hid (show keyB X = false by simp [keyB]; omega)
        go_wp2
        go_ret
        refine ⟨?_, rfl⟩
        unfold keysB
        rw [HF.out HB.out]
        rfl
    · go_wp2
      go_ret
      obtain rfl : k = n := by omega
      refine ⟨?_, rfl⟩
      have h1 := HT.out
      rw [List.take_of_length_le (by rw [HL.out]; omega)] at h1
      unfold keysB
      rw [h1]
      rfl

theorem keysFit_pays (w : World) : PredAt Try.prog 122 #[] Value.string (fun x : ByteArray => decide (80 < x.size)) w := by
  intro W x hb
  unfold FnGives
  by_cases h : 80 < x.size
  all_goals
    go_enter Try.func122, Try.ntmps122
    go_wp2
    go_ret
    exact ⟨by simp [h]; omega, 0, rfl⟩

theorem any_keys (xs : List ByteArray) : (xs.any fun x => decide (80 < x.size)) = !keysB xs := by
  unfold keysB
  induction xs with
  | nil => rfl
  | cons x xs ih =>
    simp only [List.any_cons, List.all_cons, ih, Bool.not_and]
    congr 1
    unfold keyB
    rw [Bool.eq_iff_iff]
    simp

set_option maxHeartbeats 400000 in
theorem keysFit_any (A : Option Addr) (n c lo hi : Nat) (xs : List ByteArray) (w : World) (ha : StrR w lo hi A n xs) (hn : n ≤ 1048576) :
    Calls Try.prog 86 #[.slice A n c] w fun e w' => e = .returned (.bool (keysB xs)) ∧ Below w.heap.size w w' := by
  have hl := ha.1
  subst hl
  by_cases h0 : 0 < xs.length
  · obtain ⟨b, off, rfl, _, _, hc⟩ := ha.2 h0
    have HC := Lib.hid (fun (W : World) (hW : ∀ j, j < xs.length → W.cell? ⟨b, off + j, none⟩ = some (Value.string (xs.getD j ByteArray.empty))) =>
      Try.slices_ContainsFunc Value.string (fun x : ByteArray => decide (80 < x.size)) 122 #[] (enters_of Try.func122 (by kernel_rfl) rfl) b off xs.length c xs W (keysFit_pays W) (Nat.le_refl _) (by omega)
        (fun j hj => by rw [hW j hj, List.getD_eq_getElem?_getD, List.getElem?_eq_getElem hj]; simp [hj]))
    clear ha
    have HH := Lib.hid hc; clear hc
    go_enter Try.func86, Try.ntmps86
    go_wp2_with fail
    refine (HC.out _ HH.out).mono ?_
    rintro e w1 ⟨rfl, q, rfl⟩
    rw [List.take_length, any_keys]
    go_wp2
    go_ret
    exact ⟨by simp, below_drewN' w q⟩
  · have hx : xs = [] := List.eq_nil_of_length_eq_zero (by omega)
    subst hx
    have HC := Lib.hid (Try.slices_ContainsFunc_empty (α := ByteArray) A c (.func (.func 122) #[] #[]) w)
    clear ha h0
    go_enter Try.func86, Try.ntmps86
    go_wp2_with fail
    refine HC.out.mono ?_
    rintro e w1 ⟨rfl, rfl⟩
    go_wp2
    go_ret
    exact ⟨rfl, Below.refl _ _⟩

/-- A copy of texts: whatever it is called by, the row is the call's own. -/
theorem cloneStrs_any (A : Option Addr) (n c lo hi : Nat) (xs : List ByteArray) (w : World) (ha : StrR w lo hi A n xs) (hn : n ≤ 1048576) :
    Calls Try.prog 92 #[.slice A n c] w fun e w' => ∃ v, e = .returned v ∧ OwnStrs w' w.heap.size 9 v xs ∧ Below w.heap.size w w' := by
  have hl := ha.1
  subst hl
  by_cases h0 : 0 < xs.length
  · obtain ⟨b, off, rfl, _, _, hc⟩ := ha.2 h0
    refine (Try.slices_Clone_string b off xs.length c xs w (Nat.le_refl _) (by omega) hc).mono fun e w' ⟨v, he, ho, _, hb⟩ => ?_
    rw [List.take_length] at ho
    refine ⟨v, he, ⟨?_, ho⟩, hb⟩
    rcases ho.2 with ⟨_, h1⟩ | ⟨g, cap, cur, hv, _⟩
    · omega
    · exact ⟨_, _, hv⟩
  · have hx : xs = [] := List.eq_nil_of_length_eq_zero (by omega)
    subst hx
    cases A with
    | none => exact (Try.slices_Clone_string_nil 0 c w).mono fun e w' ⟨he, hw⟩ => ⟨_, he, by rw [hw]; exact OwnR.nil_ _ _ _, by rw [hw]; exact Below.refl _ _⟩
    | some a =>
      refine (Try.slices_Clone_string_zero a c w).mono fun e w' ⟨v, he, ho, hv, hb⟩ => ⟨v, he, ⟨?_, ho⟩, hb⟩
      rcases ho.2 with ⟨h1, _⟩ | ⟨g, cap, cur, hv, _⟩
      · exact absurd h1 hv
      · exact ⟨_, _, hv⟩

set_option maxHeartbeats 1000000 in
theorem l03Subs_any (A : Option Addr) (n c lo hi : Nat) (xs : List ByteArray) (w : World) (ha : StrR w lo hi A n xs) (hhi : hi ≤ w.heap.size) (hn : n ≤ 1048576) :
    Calls Try.prog 90 #[.slice A n c] w fun e w' => ∃ v, e = .returned v ∧ OwnStrs w' w.heap.size 9 v xs ∧ Below w.heap.size w w' := by
  have hl := ha.1
  subst hl
  have hbo := (Below.refl w.heap.size w).alloc (Nat.le_refl _) (.cells #[] 9)
  by_cases h0 : 0 < xs.length
  · obtain ⟨b, off, rfl, _, hbh, hc⟩ := ha.2 h0
    have HC := Lib.hid (fun j (hj : j < xs.length) => (World.cell?_of_block (hbo.block b (by omega))).trans (hc j hj))
    have HB := Lib.hid hbo
    clear ha hc hbo
    go_enter Try.func90, Try.ntmps90
    go_wp2_with (at_builtin; refine wpList_appAll rfl (.tmp 3) (.tmp 4) 22 9 rfl Try.underlying22 infoString _ _ b off xs _ _ rfl rfl rfl HC.out h0 (by omega) ?_; intro v1 w1 hown1 hb1)
    go_ret
    exact ⟨_, rfl, hown1.mono (by simp), HB.out.trans (hb1.mono HB.out.size)⟩
  · have hx : xs = [] := List.eq_nil_of_length_eq_zero (by omega)
    subst hx
    have HO := Lib.hid (OwnR.none_ (enc := Value.string) w w.heap.size 9 (Nat.le_refl _))
    have HB := Lib.hid hbo
    clear ha h0 hbo
    cases A with
    | none =>
      go_enter Try.func90, Try.ntmps90
      go_wp2
      go_ret
      exact ⟨_, rfl, HO.out, HB.out⟩
    | some a =>
      go_enter Try.func90, Try.ntmps90
      go_wp2
      go_ret
      exact ⟨_, rfl, HO.out, HB.out⟩

end Go.Proofs.Ytcfmgmbolnifgaa
