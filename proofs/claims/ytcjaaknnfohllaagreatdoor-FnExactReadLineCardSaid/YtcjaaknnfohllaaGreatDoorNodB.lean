/- What says that a node is right: walks of both. -/
import Derived.Test.YtcjaaknnfohllaaGreatDoorNodD
import Derived.Test.YtcjaaknnfohllaaGreatDoorShelfM
namespace Go.Proofs.YtcjaaknnfohllaaGreatDoor
open Go.RowKit Go.Shelf

def subB (x : ByteArray) : Bool := decide (1 ≤ x.size) && decide (x.size ≤ 24)
def subsB (l : List ByteArray) : Bool := decide (l.length ≤ 4) && l.all subB
def nodB (x : Nod) : Bool := nameB x.name && subsB x.subs && decide (x.value.size ≤ 64)

theorem all_take_next {α : Type} (p : α → Bool) (d : α) (l : List α) (k : Nat) (h : k < l.length) : (l.take (k + 1)).all p = ((l.take k).all p && p (l.getD k d)) := by
  rw [List.take_succ_eq_append_getElem h, List.all_append, List.getD_eq_getElem?_getD, List.getElem?_eq_getElem h]
  simp
theorem all_no_at {α : Type} (p : α → Bool) (d : α) (l : List α) (k : Nat) (h : k < l.length) (hp : p (l.getD k d) = false) : l.all p = false := by
  rw [List.all_eq_false]
  refine ⟨l.getD k d, ?_, by rw [hp]; simp⟩
  rw [List.getD_eq_getElem?_getD, List.getElem?_eq_getElem h]
  exact List.getElem_mem _

theorem subB_cases (x : ByteArray) : (x.size = 0 ∧ subB x = false) ∨ (1 ≤ x.size ∧ x.size ≤ 24 ∧ subB x = true) ∨ (1 ≤ x.size ∧ ¬ x.size ≤ 24 ∧ subB x = false) := by
  unfold subB
  by_cases h1 : 1 ≤ x.size
  · by_cases h2 : x.size ≤ 24
    · right; left; exact ⟨h1, h2, by rw [decide_eq_true h1, decide_eq_true h2]; rfl⟩
    · right; right; exact ⟨h1, h2, by rw [decide_eq_false h2, Bool.and_false]⟩
  · left; exact ⟨by omega, by rw [decide_eq_false h1]; rfl⟩

set_option maxHeartbeats 1000000 in
theorem l02Sub_any (x : ByteArray) (w : World) : Calls Tryz.prog 256 #[.string x] w fun e w' => e = .returned (.bool (subB x)) ∧ w = w' := by
  rcases subB_cases x with ⟨h1, hb⟩ | ⟨h1, h2, hb⟩ | ⟨h1, h2, hb⟩
  · have i1 : ¬ (1 : Int) ≤ (x.size : Int) := by omega
    have HB := Lib.hid hb; clear hb
    have HH := Lib.hid h1; clear h1
    go_enter Tryz.func256, Tryz.ntmps256
    go_wp2_with fail
    go_ret
    exact ⟨by rw [HB.out]; rfl, rfl⟩
  · have i1 : (1 : Int) ≤ (x.size : Int) := by omega
    have i2 : (x.size : Int) ≤ 24 := by omega
    have HB := Lib.hid hb; clear hb
    go_enter Tryz.func256, Tryz.ntmps256
    go_wp2_with fail
    go_ret
    exact ⟨by rw [HB.out]; rfl, rfl⟩
  · have i1 : (1 : Int) ≤ (x.size : Int) := by omega
    have i2 : ¬ (x.size : Int) ≤ 24 := by omega
    have HB := Lib.hid hb; clear hb
    go_enter Tryz.func256, Tryz.ntmps256
    go_wp2_with fail
    go_ret
    exact ⟨by rw [HB.out]; rfl, rfl⟩

set_option maxHeartbeats 1000000 in
theorem implSubOk_any (x : ByteArray) (w : World) : Calls Tryz.prog 240 #[.string x] w fun e w' => e = .returned (.bool (subB x)) ∧ w = w' := by
  rcases subB_cases x with ⟨h1, hb⟩ | ⟨h1, h2, hb⟩ | ⟨h1, h2, hb⟩
  · have i1 : ¬ (1 : Int) ≤ (x.size : Int) := by omega
    have HB := Lib.hid hb; clear hb
    have HH := Lib.hid h1; clear h1
    go_enter Tryz.func240, Tryz.ntmps240
    go_wp2_with fail
    go_ret
    exact ⟨by rw [HB.out]; rfl, rfl⟩
  · have i1 : (1 : Int) ≤ (x.size : Int) := by omega
    have i2 : (x.size : Int) ≤ 24 := by omega
    have HB := Lib.hid hb; clear hb
    go_enter Tryz.func240, Tryz.ntmps240
    go_wp2_with fail
    go_ret
    exact ⟨by rw [HB.out]; rfl, rfl⟩
  · have i1 : (1 : Int) ≤ (x.size : Int) := by omega
    have i2 : ¬ (x.size : Int) ≤ 24 := by omega
    have HB := Lib.hid hb; clear hb
    go_enter Tryz.func240, Tryz.ntmps240
    go_wp2_with fail
    go_ret
    exact ⟨by rw [HB.out]; rfl, rfl⟩

set_option maxHeartbeats 1000000 in
theorem l02Subs_any (A : Option Addr) (n c lo hi : Nat) (xs : List ByteArray) (w : World) (ha : StrR w lo hi A n xs) (hn : n ≤ 1048576) :
    Calls Tryz.prog 234 #[.slice A n c] w fun e w' => e = .returned (.bool (subsB xs)) ∧ w = w' := by
  have hl := ha.1
  by_cases hfit : n ≤ 4
  · have hd : ¬ ((4 : Int) < (n : Int)) := by omega
    go_enter Tryz.func234, Tryz.ntmps234
    have HL := Lib.hid hl; clear hl
    go_wp2_with fail
    go_loop [3] (fun i => ∃ k : Nat, k ≤ n ∧ i = .int .i64 k ∧ (xs.take k).all subB = true) (fun i => n - (intOf i).toNat)
    case atStart => exact ⟨0, Nat.zero_le _, rfl, rfl⟩
    case round =>
      obtain ⟨k, hk, rfl, ht⟩ := hrel
      have HT := Lib.hid ht; clear ht
      by_cases hlt : k < n
      · obtain ⟨b, off, rfl, _, _, hcell⟩ := ha.at_ hlt
        have hkl : k < xs.length := by rw [HL.out]; exact hlt
        have HS := Lib.hid (all_take_next subB ByteArray.empty xs k hkl)
        have HF := Lib.hid (all_no_at subB ByteArray.empty xs k hkl)
        generalize xs.getD k ByteArray.empty = X at *
        have HC := Lib.hid (fun W => l02Sub_any X W)
        clear ha
        cases hX : subB X
        · rw [hX] at HC
          have HX := Lib.hid hX; clear hX
          go_wp2_with fail
          refine (HC.out _).mono ?_; rintro e1 w1 ⟨rfl, rfl⟩
          go_wp2_with fail
          go_ret
          refine ⟨?_, rfl⟩
          unfold subsB
          rw [HF.out HX.out, Bool.and_false]
          rfl
        · rw [hX] at HC
          have HX := Lib.hid hX; clear hX
          go_wp2_with fail
          refine (HC.out _).mono ?_; rintro e1 w1 ⟨rfl, rfl⟩
          go_wp2_with fail
          go_round
          case rel => exact ⟨k + 1, by omega, by go_num, by rw [HS.out, HT.out, HX.out]; rfl⟩
          case measure => simp [intOf]; omega
      · go_wp2_with fail
        go_ret
        obtain rfl : k = n := by omega
        refine ⟨?_, rfl⟩
        have h1 := HT.out
        rw [List.take_of_length_le (by rw [HL.out]; omega)] at h1
        unfold subsB
        rw [h1, HL.out, decide_eq_true hfit]
        rfl
  · have hd : (4 : Int) < (n : Int) := by omega
    go_enter Tryz.func234, Tryz.ntmps234
    go_wp2_with fail
    go_ret
    refine ⟨?_, rfl⟩
    unfold subsB
    rw [hl, decide_eq_false hfit]
    rfl

set_option maxHeartbeats 1000000 in
theorem specSubsOk_any (A : Option Addr) (n c lo hi : Nat) (xs : List ByteArray) (w : World) (ha : StrR w lo hi A n xs) (hn : n ≤ 1048576) :
    Calls Tryz.prog 206 #[.slice A n c] w fun e w' => e = .returned (.bool (subsB xs)) ∧ w = w' := by
  have HC := Lib.hid (l02Subs_any A n c lo hi xs w ha hn)
  go_enter Tryz.func206, Tryz.ntmps206
  go_wp2_with fail
  refine HC.out.mono ?_; rintro e1 w1 ⟨rfl, rfl⟩
  go_wp2_with fail
  go_ret
  exact ⟨rfl, rfl⟩

set_option maxHeartbeats 1000000 in
theorem specPlace_any (name : ByteArray) (A : Option Addr) (n c lo hi : Nat) (xs : List ByteArray) (w : World) (hs : name.size ≤ 9223372036854775807) (ha : StrR w lo hi A n xs) (hn : n ≤ 1048576) :
    Calls Tryz.prog 156 #[.string name, .slice A n c] w fun e w' => e = .returned (.bool (nameB name && subsB xs)) ∧ w = w' := by
  have HN := Lib.hid (specNameOk_any name w hs)
  have HC := Lib.hid (specSubsOk_any A n c lo hi xs w ha hn)
  clear ha
  generalize subsB xs = S at *
  cases hB : nameB name
  · rw [hB] at HN
    clear hB
    go_enter Tryz.func156, Tryz.ntmps156
    go_wp2_with fail
    refine HN.out.mono ?_; rintro e1 w1 ⟨rfl, rfl⟩
    go_wp2_with fail
    go_ret
    exact ⟨rfl, rfl⟩
  · rw [hB] at HN
    clear hB
    go_enter Tryz.func156, Tryz.ntmps156
    go_wp2_with fail
    refine HN.out.mono ?_; rintro e1 w1 ⟨rfl, rfl⟩
    go_wp2_with fail
    refine HC.out.mono ?_; rintro e1 w1 ⟨rfl, rfl⟩
    go_wp2_with fail
    go_ret
    exact ⟨rfl, rfl⟩

theorem subsOk1_pays (w : World) : PredAt Tryz.prog 239 #[] Value.string (fun x : ByteArray => !subB x) w := by
  intro W x hb
  unfold FnGives
  have HC := Lib.hid (fun W => implSubOk_any x W)
  dsimp only
  cases h : subB x
  · rw [h] at HC
    clear h
    go_enter Tryz.func239, Tryz.ntmps239
    go_wp2_with fail
    refine (HC.out _).mono ?_; rintro e1 w1 ⟨rfl, rfl⟩
    go_wp2_with fail
    go_ret
    exact ⟨rfl, 0, rfl⟩
  · rw [h] at HC
    clear h
    go_enter Tryz.func239, Tryz.ntmps239
    go_wp2_with fail
    refine (HC.out _).mono ?_; rintro e1 w1 ⟨rfl, rfl⟩
    go_wp2_with fail
    go_ret
    exact ⟨rfl, 0, rfl⟩
theorem any_not_all (xs : List ByteArray) : (xs.any fun x => !subB x) = !xs.all subB := by
  induction xs with
  | nil => rfl
  | cons x xs ih => simp only [List.any_cons, List.all_cons, ih, Bool.not_and]

set_option maxHeartbeats 1000000 in
theorem implSubsOk_any (A : Option Addr) (n c lo hi : Nat) (xs : List ByteArray) (w : World) (ha : StrR w lo hi A n xs) (hn : n ≤ 1048576) :
    Calls Tryz.prog 211 #[.slice A n c] w fun e w' => e = .returned (.bool (subsB xs)) ∧ ∃ q, w' = w.drewN q := by
  have hl := ha.1
  subst hl
  by_cases hfit : xs.length ≤ 4
  · have hd : (xs.length : Int) ≤ 4 := by omega
    have HR := Lib.hid (show subsB xs = !(xs.any fun x => !subB x) by unfold subsB; rw [decide_eq_true hfit, any_not_all]; simp)
    by_cases h0 : 0 < xs.length
    · obtain ⟨b, off, rfl, _, _, hc⟩ := ha.2 h0
      have HC := Lib.hid (fun (W : World) (hW : ∀ j, j < xs.length → W.cell? ⟨b, off + j, none⟩ = some (Value.string (xs.getD j ByteArray.empty))) =>
        Tryz.slices_ContainsFunc Value.string (fun x : ByteArray => !subB x) 239 #[] (enters_of Tryz.func239 (by kernel_rfl) rfl) b off xs.length c xs W (subsOk1_pays W) (Nat.le_refl _) (by omega)
          (fun j hj => by rw [hW j hj, List.getD_eq_getElem?_getD, List.getElem?_eq_getElem hj]; simp [hj]))
      clear ha
      have HH := Lib.hid hc; clear hc
      rw [HR.out]
      go_enter Tryz.func211, Tryz.ntmps211
      go_wp2_with fail
      refine (HC.out _ HH.out).mono ?_
      rintro e w1 ⟨rfl, q, rfl⟩
      go_wp2_with fail
      go_ret
      exact ⟨rfl, q, rfl⟩
    · have hx : xs = [] := List.eq_nil_of_length_eq_zero (by omega)
      subst hx
      have HC := Lib.hid (Tryz.slices_ContainsFunc_empty (α := ByteArray) A c (.func (.func 239) #[] #[]) w)
      clear ha h0
      go_enter Tryz.func211, Tryz.ntmps211
      go_wp2_with fail
      refine HC.out.mono ?_
      rintro e w1 ⟨rfl, rfl⟩
      go_wp2_with fail
      go_ret
      exact ⟨rfl, 0, rfl⟩
  · have hd : ¬ (xs.length : Int) ≤ 4 := by omega
    have HR := Lib.hid (show subsB xs = false by unfold subsB; rw [decide_eq_false hfit]; rfl)
    rw [HR.out]
    clear ha
    go_enter Tryz.func211, Tryz.ntmps211
    go_wp2_with fail
    go_ret
    exact ⟨rfl, 0, rfl⟩

set_option maxHeartbeats 1000000 in
theorem locationOk_any (name : ByteArray) (A : Option Addr) (n c lo hi : Nat) (xs : List ByteArray) (w : World) (hs : name.size ≤ 9223372036854775807) (ha : StrR w lo hi A n xs) (hn : n ≤ 1048576) :
    Calls Tryz.prog 168 #[.string name, .slice A n c] w fun e w' => e = .returned (.bool (nameB name && subsB xs)) ∧ ∃ q, w' = w.drewN q := by
  have HN := Lib.hid (implNameOk_any name w hs)
  have HC := Lib.hid (implSubsOk_any A n c lo hi xs w ha hn)
  clear ha
  generalize subsB xs = S at *
  cases hB : nameB name
  · rw [hB] at HN
    clear hB
    go_enter Tryz.func168, Tryz.ntmps168
    go_wp2_with fail
    refine HN.out.mono ?_; rintro e1 w1 ⟨rfl, rfl⟩
    go_wp2_with fail
    go_ret
    exact ⟨rfl, 0, rfl⟩
  · rw [hB] at HN
    clear hB
    go_enter Tryz.func168, Tryz.ntmps168
    go_wp2_with fail
    refine HN.out.mono ?_; rintro e1 w1 ⟨rfl, rfl⟩
    go_wp2_with fail
    refine HC.out.mono ?_; rintro e1 w1 ⟨rfl, q, rfl⟩
    go_wp2_with fail
    go_ret
    exact ⟨rfl, q, rfl⟩

set_option maxHeartbeats 1000000 in
theorem l03Node_any (x : Nod) (v : Value) (lo hi : Nat) (w : World) (hx : NodR w lo hi v x) (hhi : hi ≤ w.heap.size) (hs : NodSmall x) :
    Calls Tryz.prog 98 #[v] w fun e w' => e = .returned (.bool (nodB x)) ∧ Below w.heap.size w w' := by
  obtain ⟨name, subs, value⟩ := x
  obtain ⟨A, c, rfl, hA⟩ := hx
  obtain ⟨h1, h2, h3, h4⟩ := hs
  dsimp only at *
  have hbo := (Below.refl w.heap.size w).alloc (Nat.le_refl _) (.cells #[.string name, .slice A subs.length c, .string value] 37)
  have HC := Lib.hid (specPlace_any name A subs.length c lo hi subs _ (by omega) (hA.below hbo hhi) h3)
  have HD := Lib.hid hbo
  clear hA hbo h4
  have hR : nodB ⟨name, subs, value⟩ = ((nameB name && subsB subs) && decide (value.size ≤ 64)) := rfl
  have HR := Lib.hid hR; clear hR
  generalize nodB ⟨name, subs, value⟩ = R at *
  cases hB : (nameB name && subsB subs)
  · rw [hB] at HC HR
    clear hB
    go_enter Tryz.func98, Tryz.ntmps98
    go_wp2_with fail
    refine HC.out.mono ?_; rintro e1 w1 ⟨rfl, rfl⟩
    go_wp2_with fail
    go_ret
    exact ⟨by rw [HR.out]; rfl, HD.out⟩
  · rw [hB] at HC HR
    clear hB
    by_cases h64 : value.size ≤ 64
    · have i64 : (value.size : Int) ≤ 64 := by omega
      rw [decide_eq_true h64] at HR
      clear h64
      go_enter Tryz.func98, Tryz.ntmps98
      go_wp2_with fail
      refine HC.out.mono ?_; rintro e1 w1 ⟨rfl, rfl⟩
      go_wp2_with fail
      go_ret
      exact ⟨by rw [HR.out]; rfl, HD.out⟩
    · have i64 : ¬ (value.size : Int) ≤ 64 := by omega
      rw [decide_eq_false h64] at HR
      clear h64
      go_enter Tryz.func98, Tryz.ntmps98
      go_wp2_with fail
      refine HC.out.mono ?_; rintro e1 w1 ⟨rfl, rfl⟩
      go_wp2_with fail
      go_ret
      exact ⟨by rw [HR.out]; exact congrArg (fun b => Ending.returned (.bool b)) (by first | rfl | (simp; omega)), HD.out⟩

set_option maxHeartbeats 1000000 in
theorem nodeOk_any (x : Nod) (v : Value) (lo hi : Nat) (w : World) (hx : NodR w lo hi v x) (hhi : hi ≤ w.heap.size) (hs : NodSmall x) :
    Calls Tryz.prog 109 #[v] w fun e w' => e = .returned (.bool (nodB x)) ∧ Below w.heap.size w w' := by
  obtain ⟨name, subs, value⟩ := x
  obtain ⟨A, c, rfl, hA⟩ := hx
  obtain ⟨h1, h2, h3, h4⟩ := hs
  dsimp only at *
  have hbo := (Below.refl w.heap.size w).alloc (Nat.le_refl _) (.cells #[.string name, .slice A subs.length c, .string value] 37)
  have HC := Lib.hid (locationOk_any name A subs.length c lo hi subs _ (by omega) (hA.below hbo hhi) h3)
  have HD := Lib.hid (fun q => hbo.trans ((below_drewN' _ q).mono hbo.size))
  clear hA hbo h4
  have hR : nodB ⟨name, subs, value⟩ = ((nameB name && subsB subs) && decide (value.size ≤ 64)) := rfl
  have HR := Lib.hid hR; clear hR
  generalize nodB ⟨name, subs, value⟩ = R at *
  cases hB : (nameB name && subsB subs)
  · rw [hB] at HC HR
    clear hB
    go_enter Tryz.func109, Tryz.ntmps109
    go_wp2_with fail
    refine HC.out.mono ?_; rintro e1 w1 ⟨rfl, q, rfl⟩
    go_wp2_with fail
    go_ret
    exact ⟨by rw [HR.out]; rfl, HD.out q⟩
  · rw [hB] at HC HR
    clear hB
    by_cases h64 : value.size ≤ 64
    · have i64 : (value.size : Int) ≤ 64 := by omega
      rw [decide_eq_true h64] at HR
      clear h64
      go_enter Tryz.func109, Tryz.ntmps109
      go_wp2_with fail
      refine HC.out.mono ?_; rintro e1 w1 ⟨rfl, q, rfl⟩
      go_wp2_with fail
      go_ret
      exact ⟨by rw [HR.out]; rfl, HD.out q⟩
    · have i64 : ¬ (value.size : Int) ≤ 64 := by omega
      rw [decide_eq_false h64] at HR
      clear h64
      go_enter Tryz.func109, Tryz.ntmps109
      go_wp2_with fail
      refine HC.out.mono ?_; rintro e1 w1 ⟨rfl, q, rfl⟩
      go_wp2_with fail
      go_ret
      exact ⟨by rw [HR.out]; exact congrArg (fun b => Ending.returned (.bool b)) (by first | rfl | (simp; omega)), HD.out q⟩
end Go.Proofs.YtcjaaknnfohllaaGreatDoor
