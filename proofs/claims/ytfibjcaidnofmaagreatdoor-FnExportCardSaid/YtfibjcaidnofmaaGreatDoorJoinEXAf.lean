/- What says that a node is right: walks of both. -/
import Derived.Test.YtfibjcaidnofmaaGreatDoorJoinEXAd
import Derived.Test.YtfibjcaidnofmaaGreatDoorShelfM
import Derived.StillTailTactics
namespace Go.Proofs.YtfibjcaidnofmaaGreatDoor
open Go.RowKit Go.Shelf

def subB (x : ByteArray) : Bool := decide (1 ≤ x.size) && decide (x.size ≤ 24)
def subsB (l : List ByteArray) : Bool := decide (l.length ≤ 4) && l.all subB
def nodB (x : Nod) : Bool := nameB x.name && subsB x.subs && decide (x.value.size ≤ 64)

theorem all_take_next {α : Type} (p : α → Bool) (d : α) (l : List α) (k : Nat) (h : k < l.length) : (l.take (k + 1)).all p = ((l.take k).all p && p (l.getD k d)) := by
  rw [List.take_succ_eq_append_getElem h, List.all_append, List.getD_eq_getElem?_getD, List.getElem?_eq_getElem h]
  simp
theorem all_no_at {α : Type} (p : α → Bool) (d : α) (l : List α) (k : Nat) (h : k < l.length) (hp : p (l.getD k d) = false) : l.all p = false := by
  rw [List.all_eq_false]
  refine ⟨l.getD k d, ?_, by rw [hp]; simp⟩
  rw [List.getD_eq_getElem?_getD, List.getElem?_eq_getElem h]
  exact List.getElem_mem _

theorem subB_cases (x : ByteArray) : (x.size = 0 ∧ subB x = false) ∨ (1 ≤ x.size ∧ x.size ≤ 24 ∧ subB x = true) ∨ (1 ≤ x.size ∧ ¬ x.size ≤ 24 ∧ subB x = false) := by
  unfold subB
  by_cases h1 : 1 ≤ x.size
  · by_cases h2 : x.size ≤ 24
    · right; left; exact ⟨h1, h2, by rw [decide_eq_true h1, decide_eq_true h2]; rfl⟩
    · right; right; exact ⟨h1, h2, by rw [decide_eq_false h2, Bool.and_false]⟩
  · left; exact ⟨by omega, by rw [decide_eq_false h1]; rfl⟩

set_option maxHeartbeats 1000000 in
theorem l02Sub_any (x : ByteArray) (w : World) : Calls Tryz.prog 212 #[.string x] w fun e w' => e = .returned (.bool (subB x)) ∧ w = w' := by
  rcases subB_cases x with ⟨h1, hb⟩ | ⟨h1, h2, hb⟩ | ⟨h1, h2, hb⟩
  · have i1 : ¬ (1 : Int) ≤ (x.size : Int) := by omega
    have HB := Lib.hid hb; clear hb
    have HH := Lib.hid h1; clear h1
    go_enter Tryz.func212, Tryz.ntmps212
    go_wp2_with fail
    go_ret
    exact ⟨by rw [HB.out]; rfl, rfl⟩
  · have i1 : (1 : Int) ≤ (x.size : Int) := by omega
    have i2 : (x.size : Int) ≤ 24 := by omega
    have HB := Lib.hid hb; clear hb
    go_enter Tryz.func212, Tryz.ntmps212
    go_wp2_with fail
    go_ret
    exact ⟨by rw [HB.out]; rfl, rfl⟩
  · have i1 : (1 : Int) ≤ (x.size : Int) := by omega
    have i2 : ¬ (x.size : Int) ≤ 24 := by omega
    have HB := Lib.hid hb; clear hb
    go_enter Tryz.func212, Tryz.ntmps212
    go_wp2_with fail
    go_ret
    exact ⟨by rw [HB.out]; rfl, rfl⟩

set_option maxHeartbeats 1000000 in
theorem implSubOk_any (x : ByteArray) (w : World) : Calls Tryz.prog 182 #[.string x] w fun e w' => e = .returned (.bool (subB x)) ∧ w = w' := by
  rcases subB_cases x with ⟨h1, hb⟩ | ⟨h1, h2, hb⟩ | ⟨h1, h2, hb⟩
  · have i1 : ¬ (1 : Int) ≤ (x.size : Int) := by omega
    have HB := Lib.hid hb; clear hb
    have HH := Lib.hid h1; clear h1
    go_enter Tryz.func182, Tryz.ntmps182
    go_wp2_with fail
    go_ret
    exact ⟨by rw [HB.out]; rfl, rfl⟩
  · have i1 : (1 : Int) ≤ (x.size : Int) := by omega
    have i2 : (x.size : Int) ≤ 24 := by omega
    have HB := Lib.hid hb; clear hb
    go_enter Tryz.func182, Tryz.ntmps182
    go_wp2_with fail
    go_ret
    exact ⟨by rw [HB.out]; rfl, rfl⟩
  · have i1 : (1 : Int) ≤ (x.size : Int) := by omega
    have i2 : ¬ (x.size : Int) ≤ 24 := by omega
    have HB := Lib.hid hb; clear hb
    go_enter Tryz.func182, Tryz.ntmps182
    go_wp2_with fail
    go_ret
    exact ⟨by rw [HB.out]; rfl, rfl⟩

set_option maxHeartbeats 1000000 in
theorem l02Subs_any (A : Option Addr) (n c lo hi : Nat) (xs : List ByteArray) (w : World) (ha : StrR w lo hi A n xs) (hn : n ≤ 1048576) :
    Calls Tryz.prog 179 #[.slice A n c] w fun e w' => e = .returned (.bool (subsB xs)) ∧ w = w' := by
  have hl := ha.1
  by_cases hfit : n ≤ 4
  · have hd : ¬ ((4 : Int) < (n : Int)) := by omega
    go_enter Tryz.func179, Tryz.ntmps179
    have HL := Lib.hid hl; clear hl
    go_wp2_with fail
    go_loop [3] (fun i => ∃ k : Nat, k ≤ n ∧ i = .int .i64 k ∧ (xs.take k).all subB = true) (fun i => n - (intOf i).toNat)
    case atStart => exact ⟨0, Nat.zero_le _, rfl, rfl⟩
    case round =>
      obtain ⟨k, hk, rfl, ht⟩ := hrel
      have HT := Lib.hid ht; clear ht
      by_cases hlt : k < n
      · obtain ⟨b, off, rfl, _, _, hcell⟩ := ha.at_ hlt
        have hkl : k < xs.length := by rw [HL.out]; exact hlt
        have HS := Lib.hid (all_take_next subB ByteArray.empty xs k hkl)
        have HF := Lib.hid (all_no_at subB ByteArray.empty xs k hkl)
        generalize xs.getD k ByteArray.empty = X at *
        have HC := Lib.hid (fun W => l02Sub_any X W)
        clear ha
        cases hX : subB X
        · rw [hX] at HC
          have HX := Lib.hid hX; clear hX
          go_wp2_with fail
          refine (HC.out _).mono ?_; rintro e1 w1 ⟨rfl, rfl⟩
          go_wp2_with fail
          go_ret
          refine ⟨?_, rfl⟩
          unfold subsB
          rw [HF.out HX.out, Bool.and_false]
          rfl
        · rw [hX] at HC
          have HX := Lib.hid hX; clear hX
          go_wp2_with fail
          refine (HC.out _).mono ?_; rintro e1 w1 ⟨rfl, rfl⟩
          go_wp2_with fail
          go_round
          case rel => exact ⟨k + 1, by omega, by go_num, by rw [HS.out, HT.out, HX.out]; rfl⟩
          case measure => simp [intOf]; omega
      · go_wp2_with fail
        go_ret
        obtain rfl : k = n := by omega
        refine ⟨?_, rfl⟩
        have h1 := HT.out
        rw [List.take_of_length_le (by rw [HL.out]; omega)] at h1
        unfold subsB
        rw [h1, HL.out, decide_eq_true hfit]
        rfl
  · have hd : (4 : Int) < (n : Int) := by omega
    go_enter Tryz.func179, Tryz.ntmps179
    go_wp2_with fail
    go_ret
    refine ⟨?_, rfl⟩
    unfold subsB
    rw [hl, decide_eq_false hfit]
    rfl

set_option maxHeartbeats 1000000 in
theorem specSubsOk_any (A : Option Addr) (n c lo hi : Nat) (xs : List ByteArray) (w : World) (ha : StrR w lo hi A n xs) (hn : n ≤ 1048576) :
    Calls Tryz.prog 137 #[.slice A n c] w fun e w' => e = .returned (.bool (subsB xs)) ∧ w = w' := by
  have HC := Lib.hid (l02Subs_any A n c lo hi xs w ha hn)
  go_enter Tryz.func137, Tryz.ntmps137
  go_wp2_with fail
  refine HC.out.mono ?_; rintro e1 w1 ⟨rfl, rfl⟩
  go_wp2_with fail
  go_ret
  exact ⟨rfl, rfl⟩

set_option maxHeartbeats 1000000 in
theorem specPlace_any (name : ByteArray) (A : Option Addr) (n c lo hi : Nat) (xs : List ByteArray) (w : World) (hs : name.size ≤ 9223372036854775807) (ha : StrR w lo hi A n xs) (hn : n ≤ 1048576) :
    Calls Tryz.prog 81 #[.string name, .slice A n c] w fun e w' => e = .returned (.bool (nameB name && subsB xs)) ∧ w = w' := by
  have HN := Lib.hid (specNameOk_any name w hs)
  have HC := Lib.hid (specSubsOk_any A n c lo hi xs w ha hn)
  clear ha
  generalize subsB xs = S at *
  cases hB : nameB name
  · rw [hB] at HN
    clear hB
    go_enter Tryz.func81, Tryz.ntmps81
    go_wp2_with fail
    refine HN.out.mono ?_; rintro e1 w1 ⟨rfl, rfl⟩
    go_wp2_with fail
    go_ret
    exact ⟨rfl, rfl⟩
  · rw [hB] at HN
    clear hB
    go_enter Tryz.func81, Tryz.ntmps81
    go_wp2_with fail
    refine HN.out.mono ?_; rintro e1 w1 ⟨rfl, rfl⟩
    go_wp2_with fail
    refine HC.out.mono ?_; rintro e1 w1 ⟨rfl, rfl⟩
    go_wp2_with fail
    go_ret
    exact ⟨rfl, rfl⟩

theorem subsOk1_pays (w : World) : PredAt Tryz.prog 181 #[] Value.string (fun x : ByteArray => !subB x) w := by
  intro W x hb
  unfold FnGives
  have HC := Lib.hid (fun W => implSubOk_any x W)
  dsimp only
  cases h : subB x
  · rw [h] at HC
    clear h
    go_enter Tryz.func181, Tryz.ntmps181
    go_wp2_with fail
    refine (HC.out _).mono ?_; rintro e1 w1 ⟨rfl, rfl⟩
    go_wp2_with fail
    go_ret
    exact ⟨rfl, 0, rfl⟩
  · rw [h] at HC
    clear h
    go_enter Tryz.func181, Tryz.ntmps181
    go_wp2_with fail
    refine (HC.out _).mono ?_; rintro e1 w1 ⟨rfl, rfl⟩
    go_wp2_with fail
    go_ret
    exact ⟨rfl, 0, rfl⟩
theorem any_not_all (xs : List ByteArray) : (xs.any fun x => !subB x) = !xs.all subB := by
  induction xs with
  | nil => rfl
  | cons x xs ih => simp only [List.any_cons, List.all_cons, ih, Bool.not_and]

set_option maxHeartbeats 1000000 in
theorem implSubsOk_any (A : Option Addr) (n c lo hi : Nat) (xs : List ByteArray) (w : World) (ha : StrR w lo hi A n xs) (hn : n ≤ 1048576) :
    Calls Tryz.prog 139 #[.slice A n c] w fun e w' => e = .returned (.bool (subsB xs)) ∧ ∃ q, w' = w.drewN q := by
  have hl := ha.1
  subst hl
  by_cases hfit : xs.length ≤ 4
  · have hd : (xs.length : Int) ≤ 4 := by omega
    have HR := Lib.hid (show subsB xs = !(xs.any fun x => !subB x) by unfold subsB; rw [decide_eq_true hfit, any_not_all]; simp)
    by_cases h0 : 0 < xs.length
    · obtain ⟨b, off, rfl, _, _, hc⟩ := ha.2 h0
      have HC := Lib.hid (fun (W : World) (hW : ∀ j, j < xs.length → W.cell? ⟨b, off + j, none⟩ = some (Value.string (xs.getD j ByteArray.empty))) =>
        Tryz.slices_ContainsFunc Value.string (fun x : ByteArray => !subB x) 181 #[] (enters_of Tryz.func181 (by kernel_rfl) rfl) b off xs.length c xs W (subsOk1_pays W) (Nat.le_refl _) (by omega)
          (fun j hj => by rw [hW j hj, List.getD_eq_getElem?_getD, List.getElem?_eq_getElem hj]; simp [hj]))
      clear ha
      have HH := Lib.hid hc; clear hc
      rw [HR.out]
      go_enter Tryz.func139, Tryz.ntmps139
      go_wp2_with fail
      refine (HC.out _ HH.out).mono ?_
      rintro e w1 ⟨rfl, q, rfl⟩
      go_wp2_with fail
      go_ret
      exact ⟨rfl, q, rfl⟩
    · have hx : xs = [] := List.eq_nil_of_length_eq_zero (by omega)
      subst hx
      have HC := Lib.hid (Tryz.slices_ContainsFunc_empty (α := ByteArray) A c (.func (.func 181) #[] #[]) w)
      clear ha h0
      go_enter Tryz.func139, Tryz.ntmps139
      go_wp2_with fail
      refine HC.out.mono ?_
      rintro e w1 ⟨rfl, rfl⟩
      go_wp2_with fail
      go_ret
      exact ⟨rfl, 0, rfl⟩
  · have hd : ¬ (xs.length : Int) ≤ 4 := by omega
    have HR := Lib.hid (show subsB xs = false by unfold subsB; rw [decide_eq_false hfit]; rfl)
    rw [HR.out]
    clear ha
    go_enter Tryz.func139, Tryz.ntmps139
    go_wp2_with fail
    go_ret
    exact ⟨rfl, 0, rfl⟩

set_option maxHeartbeats 1000000 in
theorem locationOk_any (name : ByteArray) (A : Option Addr) (n c lo hi : Nat) (xs : List ByteArray) (w : World) (hs : name.size ≤ 9223372036854775807) (ha : StrR w lo hi A n xs) (hn : n ≤ 1048576) :
    Calls Tryz.prog 83 #[.string name, .slice A n c] w fun e w' => e = .returned (.bool (nameB name && subsB xs)) ∧ ∃ q, w' = w.drewN q := by
  have HN := Lib.hid (implNameOk_any name w hs)
  have HC := Lib.hid (implSubsOk_any A n c lo hi xs w ha hn)
  clear ha
  generalize subsB xs = S at *
  cases hB : nameB name
  · rw [hB] at HN
    clear hB
    go_enter Tryz.func83, Tryz.ntmps83
    go_wp2_with fail
    refine HN.out.mono ?_; rintro e1 w1 ⟨rfl, rfl⟩
    go_wp2_with fail
    go_ret
    exact ⟨rfl, 0, rfl⟩
  · rw [hB] at HN
    clear hB
    go_enter Tryz.func83, Tryz.ntmps83
    go_wp2_with fail
    refine HN.out.mono ?_; rintro e1 w1 ⟨rfl, rfl⟩
    go_wp2_with fail
    refine HC.out.mono ?_; rintro e1 w1 ⟨rfl, q, rfl⟩
    go_wp2_with fail
    go_ret
    exact ⟨rfl, q, rfl⟩

set_option maxHeartbeats 1000000 in
theorem l03Node_any (x : Nod) (v : Value) (lo hi : Nat) (w : World) (hx : NodR w lo hi v x) (hhi : hi ≤ w.heap.size) (hs : NodSmall x) :
    Calls Tryz.prog 28 #[v] w fun e w' => e = .returned (.bool (nodB x)) ∧ Below w.heap.size w w' := by
  obtain ⟨name, subs, value⟩ := x
  obtain ⟨A, c, rfl, hA⟩ := hx
  obtain ⟨h1, h2, h3, h4⟩ := hs
  dsimp only at *
  have hbo := (Below.refl w.heap.size w).alloc (Nat.le_refl _) (.cells #[.string name, .slice A subs.length c, .string value] 32)
  have HC := Lib.hid (specPlace_any name A subs.length c lo hi subs _ (by omega) (hA.below hbo hhi) h3)
  have HD := Lib.hid hbo
  clear hA hbo h4
  have hR : nodB ⟨name, subs, value⟩ = ((nameB name && subsB subs) && decide (value.size ≤ 64)) := rfl
  have HR := Lib.hid hR; clear hR
  generalize nodB ⟨name, subs, value⟩ = R at *
  cases hB : (nameB name && subsB subs)
  · rw [hB] at HC HR
    clear hB
    go_enter Tryz.func28, Tryz.ntmps28
    go_wp2_with fail
    refine HC.out.mono ?_; rintro e1 w1 ⟨rfl, rfl⟩
    go_wp2_with fail
    go_ret
    exact ⟨by rw [HR.out]; rfl, HD.out⟩
  · rw [hB] at HC HR
    clear hB
    by_cases h64 : value.size ≤ 64
    · have i64 : (value.size : Int) ≤ 64 := by omega
      rw [decide_eq_true h64] at HR
      clear h64
      go_enter Tryz.func28, Tryz.ntmps28
      go_wp2_with fail
      refine HC.out.mono ?_; rintro e1 w1 ⟨rfl, rfl⟩
      go_wp2_with fail
      go_ret
      exact ⟨by rw [HR.out]; rfl, HD.out⟩
    · have i64 : ¬ (value.size : Int) ≤ 64 := by omega
      rw [decide_eq_false h64] at HR
      clear h64
      go_enter Tryz.func28, Tryz.ntmps28
      go_wp2_with fail
      refine HC.out.mono ?_; rintro e1 w1 ⟨rfl, rfl⟩
      go_wp2_with fail
      go_ret
      exact ⟨by rw [HR.out]; exact congrArg (fun b => Ending.returned (.bool b)) (by first | rfl | (simp; omega)), HD.out⟩

set_option maxHeartbeats 1000000 in
theorem nodeOk_any (x : Nod) (v : Value) (lo hi : Nat) (w : World) (hx : NodR w lo hi v x) (hhi : hi ≤ w.heap.size) (hs : NodSmall x) :
    Calls Tryz.prog 30 #[v] w fun e w' => e = .returned (.bool (nodB x)) ∧ Below w.heap.size w w' := by
  obtain ⟨name, subs, value⟩ := x
  obtain ⟨A, c, rfl, hA⟩ := hx
  obtain ⟨h1, h2, h3, h4⟩ := hs
  dsimp only at *
  have hbo := (Below.refl w.heap.size w).alloc (Nat.le_refl _) (.cells #[.string name, .slice A subs.length c, .string value] 32)
  have HC := Lib.hid (locationOk_any name A subs.length c lo hi subs _ (by omega) (hA.below hbo hhi) h3)
  have HD := Lib.hid (fun q => hbo.trans ((below_drewN' _ q).mono hbo.size))
  clear hA hbo h4
  have hR : nodB ⟨name, subs, value⟩ = ((nameB name && subsB subs) && decide (value.size ≤ 64)) := rfl
  have HR := Lib.hid hR; clear hR
  generalize nodB ⟨name, subs, value⟩ = R at *
  cases hB : (nameB name && subsB subs)
  · rw [hB] at HC HR
    clear hB
    go_enter Tryz.func30, Tryz.ntmps30
    go_wp2_with fail
    refine HC.out.mono ?_; rintro e1 w1 ⟨rfl, q, rfl⟩
    go_wp2_with fail
    go_ret
    exact ⟨by rw [HR.out]; rfl, HD.out q⟩
  · rw [hB] at HC HR
    clear hB
    by_cases h64 : value.size ≤ 64
    · have i64 : (value.size : Int) ≤ 64 := by omega
      rw [decide_eq_true h64] at HR
      clear h64
      go_enter Tryz.func30, Tryz.ntmps30
      go_wp2_with fail
      refine HC.out.mono ?_; rintro e1 w1 ⟨rfl, q, rfl⟩
      go_wp2_with fail
      go_ret
      exact ⟨by rw [HR.out]; rfl, HD.out q⟩
    · have i64 : ¬ (value.size : Int) ≤ 64 := by omega
      rw [decide_eq_false h64] at HR
      clear h64
      go_enter Tryz.func30, Tryz.ntmps30
      go_wp2_with fail
      refine HC.out.mono ?_; rintro e1 w1 ⟨rfl, q, rfl⟩
      go_wp2_with fail
      go_ret
      exact ⟨by rw [HR.out]; exact congrArg (fun b => Ending.returned (.bool b)) (by first | rfl | (simp; omega)), HD.out q⟩
end Go.Proofs.YtfibjcaidnofmaaGreatDoor

/- Trees: rows of nodes; walks of szNodeS, szTree, toNodeS, toTree, eqNodeS, eqTree. -/
namespace Go.Proofs.YtfibjcaidnofmaaGreatDoor
open Go.RowKit

/-- At cell o of block b there lies a node that reads as x. -/
def NodAt (w : World) (lo hi b o : Nat) (x : Nod) : Prop :=
  ∃ A c, w.cell? ⟨b, o, none⟩ = some (.string x.name) ∧ w.cell? ⟨b, o + 1, none⟩ = some (.slice A x.subs.length c) ∧ w.cell? ⟨b, o + 2, none⟩ = some (.string x.value) ∧ StrR w lo hi A x.subs.length x.subs
/-- The slice with address A and n nodes reads as ns; all of it lies in blocks from lo up to, not including, hi. -/
def NodesR (w : World) (lo hi : Nat) (A : Option Addr) (n : Nat) (ns : List Nod) : Prop :=
  ns.length = n ∧ (0 < n → ∃ b off, A = some ⟨b, off, none⟩ ∧ lo ≤ b ∧ b < hi ∧ ∀ j, j < n → NodAt w lo hi b (off + j * 3) (ns.getD j nodD))
theorem NodesR.keep {w w' : World} {lo hi : Nat} {A : Option Addr} {n : Nat} {ns : List Nod} (h : NodesR w lo hi A n ns) (hk : ∀ b, lo ≤ b → b < hi → w'.heap[b]? = w.heap[b]?) : NodesR w' lo hi A n ns :=
  ⟨h.1, fun hn => by
    obtain ⟨b, off, e, h1, h2, hc⟩ := h.2 hn
    refine ⟨b, off, e, h1, h2, fun j hj => ?_⟩
    obtain ⟨L, c, e0, e1, e2, hL⟩ := hc j hj
    have hkb := hk b h1 h2
    exact ⟨L, c, (World.cell?_of_block hkb).trans e0, (World.cell?_of_block hkb).trans e1, (World.cell?_of_block hkb).trans e2, hL.keep hk⟩⟩
theorem NodesR.below {w w' : World} {lo hi B : Nat} {A : Option Addr} {n : Nat} {ns : List Nod} (h : NodesR w lo hi A n ns) (hb : Below B w w') (hB : hi ≤ B) : NodesR w' lo hi A n ns :=
  h.keep fun b _ h2 => hb.block b (by omega)
theorem NodesR.at_ {w : World} {lo hi : Nat} {A : Option Addr} {n : Nat} {ns : List Nod} {k : Nat} (h : NodesR w lo hi A n ns) (hk : k < n) :
    ∃ b off, A = some ⟨b, off, none⟩ ∧ lo ≤ b ∧ b < hi ∧ NodAt w lo hi b (off + k * 3) (ns.getD k nodD) := by
  obtain ⟨b, off, e, h1, h2, hc⟩ := h.2 (by omega)
  exact ⟨b, off, e, h1, h2, hc k hk⟩
/-- The value v of a tree reads as ns. -/
def TreR (w : World) (lo hi : Nat) (v : Value) (ns : List Nod) : Prop := ∃ A c, v = .agg #[.slice A ns.length c] ∧ NodesR w lo hi A ns.length ns
theorem TreR.keep {w w' : World} {lo hi : Nat} {v : Value} {ns : List Nod} (h : TreR w lo hi v ns) (hk : ∀ b, lo ≤ b → b < hi → w'.heap[b]? = w.heap[b]?) : TreR w' lo hi v ns := by
  obtain ⟨A, c, hv, h1⟩ := h
  exact ⟨A, c, hv, h1.keep hk⟩
theorem TreR.below {w w' : World} {lo hi B : Nat} {v : Value} {ns : List Nod} (h : TreR w lo hi v ns) (hb : Below B w w') (hB : hi ≤ B) : TreR w' lo hi v ns :=
  h.keep fun b _ h2 => hb.block b (by omega)
def NodsSmall (ns : List Nod) : Prop := ns.length ≤ 1048576 ∧ ∀ x ∈ ns, NodSmall x
theorem nod_mem {α : Type} {fs : List α} {d : α} {k : Nat} (h : k < fs.length) : fs.getD k d ∈ fs := by
  rw [List.getD_eq_getElem?_getD, List.getElem?_eq_getElem h]
  exact List.getElem_mem _

def put3 (cs : Array Value) (o : Nat) (a b c : Value) : Array Value := ((cs.setIfInBounds o a).setIfInBounds (o + 1) b).setIfInBounds (o + 2) c
theorem put3_far (cs : Array Value) (o p : Nat) (a b c : Value) (h : p < o ∨ o + 3 ≤ p) : (put3 cs o a b c)[p]? = cs[p]? := by
  unfold put3
  rw [Array.getElem?_setIfInBounds_ne (by omega), Array.getElem?_setIfInBounds_ne (by omega), Array.getElem?_setIfInBounds_ne (by omega)]
theorem put3_get (cs : Array Value) (o : Nat) (a b c : Value) (h : o + 2 < cs.size) :
    (put3 cs o a b c)[o]? = some a ∧ (put3 cs o a b c)[o + 1]? = some b ∧ (put3 cs o a b c)[o + 2]? = some c := by
  unfold put3
  refine ⟨?_, ?_, ?_⟩
  · rw [Array.getElem?_setIfInBounds_ne (by omega), Array.getElem?_setIfInBounds_ne (by omega), Array.getElem?_setIfInBounds_self_of_lt (by omega)]
  · rw [Array.getElem?_setIfInBounds_ne (by omega), Array.getElem?_setIfInBounds_self_of_lt (by simp; omega)]
  · rw [Array.getElem?_setIfInBounds_self_of_lt (by simp; omega)]

/-- Block g holds the first k nodes; their subscripts lie behind it. -/
structure RowNs (w : World) (g : Nat) (cs : Array Value) (ns : List Nod) (k : Nat) : Prop where
  blk : Blk w g 32 cs
  cells : ∀ j, j < k → ∃ L c, cs[j * 3]? = some (.string (ns.getD j nodD).name) ∧ cs[j * 3 + 1]? = some (.slice L (ns.getD j nodD).subs.length c) ∧ cs[j * 3 + 2]? = some (.string (ns.getD j nodD).value) ∧ StrR w (g + 1) w.heap.size L (ns.getD j nodD).subs.length (ns.getD j nodD).subs

theorem RowNs.reads {w : World} {g : Nat} {cs : Array Value} {ns : List Nod} (h : RowNs w g cs ns ns.length) : NodesR w g w.heap.size (some ⟨g, 0, none⟩) ns.length ns := by
  refine ⟨rfl, fun _ => ⟨g, 0, rfl, Nat.le_refl _, h.blk.lt, fun j hj => ?_⟩⟩
  obtain ⟨L, c, e0, e1, e2, hL⟩ := h.cells j hj
  refine ⟨L, c, ?_, ?_, ?_, hL.more (by omega) (Nat.le_refl _)⟩
  · rw [Nat.zero_add, h.blk.cell]; exact e0
  · rw [Nat.zero_add, h.blk.cell]; exact e1
  · rw [Nat.zero_add, h.blk.cell]; exact e2

theorem setCell_strR {w : World} {lo hi : Nat} {A : Option Addr} {n : Nat} {xs : List ByteArray} (h : StrR w lo hi A n xs) {g : Nat} (hg : g < lo) (o : Nat) (u : Value) : StrR (w.setCell ⟨g, o, none⟩ u) lo hi A n xs :=
  h.keep fun b h1 _ => Below.heap_setCell w ⟨g, o, none⟩ u b (show b ≠ g by omega)

/-- One node more. -/
theorem RowNs.add {w w1 : World} {g : Nat} {cs : Array Value} {ns : List Nod} {k : Nat} {A : Option Addr} {c : Nat} (h : RowNs w g cs ns k) (hb : Below w.heap.size w w1)
    (ho : w1.ownsRow w.heap.size 9 1 (.slice A (ns.getD k nodD).subs.length c) (ns.getD k nodD).subs.length ((ns.getD k nodD).subs.map Value.string)) (hk : k * 3 + 2 < cs.size) :
    RowNs (((w1.setCell ⟨g, k * 3, none⟩ (.string (ns.getD k nodD).name)).setCell ⟨g, k * 3 + 1, none⟩ (.slice A (ns.getD k nodD).subs.length c)).setCell ⟨g, k * 3 + 2, none⟩ (.string (ns.getD k nodD).value))
      g (put3 cs (k * 3) (.string (ns.getD k nodD).name) (.slice A (ns.getD k nodD).subs.length c) (.string (ns.getD k nodD).value)) ns (k + 1) := by
  have hg : g < w.heap.size := h.blk.lt
  have hs := hb.size
  refine ⟨?_, fun j hj => ?_⟩
  · exact (((h.blk.below hb hg).set_ _ _).set_ _ _).set_ _ _
  · by_cases e : j = k
    · subst e
      obtain ⟨p0, p1, p2⟩ := put3_get cs (j * 3) (.string (ns.getD j nodD).name) (.slice A (ns.getD j nodD).subs.length c) (.string (ns.getD j nodD).value) hk
      refine ⟨A, c, p0, p1, p2, ?_⟩
      have h1 := (StrR.of_own ho).more (show g + 1 ≤ w.heap.size by omega) (Nat.le_refl _)
      have h2 := setCell_strR (setCell_strR (setCell_strR h1 (g := g) (by omega) (j * 3) (.string (ns.getD j nodD).name)) (g := g) (by omega) (j * 3 + 1) (.slice A (ns.getD j nodD).subs.length c)) (g := g) (by omega) (j * 3 + 2) (.string (ns.getD j nodD).value)
      simpa using h2
    · obtain ⟨L, d, e0, e1, e2, hL⟩ := h.cells j (by omega)
      refine ⟨L, d, (put3_far _ _ _ _ _ _ (by omega)).trans e0, (put3_far _ _ _ _ _ _ (by omega)).trans e1, (put3_far _ _ _ _ _ _ (by omega)).trans e2, ?_⟩
      have h1 := (hL.below hb (Nat.le_refl _)).more (Nat.le_refl _) hs
      have h2 := setCell_strR (setCell_strR (setCell_strR h1 (g := g) (by omega) (k * 3) (.string (ns.getD k nodD).name)) (g := g) (by omega) (k * 3 + 1) (.slice A (ns.getD k nodD).subs.length c)) (g := g) (by omega) (k * 3 + 2) (.string (ns.getD k nodD).value)
      simpa using h2

theorem NodesR.more {w : World} {lo hi lo' hi' : Nat} {A : Option Addr} {n : Nat} {ns : List Nod} (h : NodesR w lo hi A n ns) (h1 : lo' ≤ lo) (h2 : hi ≤ hi') : NodesR w lo' hi' A n ns :=
  ⟨h.1, fun hn => by
    obtain ⟨b, off, e, h3, h4, hc⟩ := h.2 hn
    refine ⟨b, off, e, by omega, by omega, fun j hj => ?_⟩
    obtain ⟨L, c, e0, e1, e2, hL⟩ := hc j hj
    exact ⟨L, c, e0, e1, e2, hL.more h1 h2⟩⟩
theorem infoNode : (Tryz.prog.info? 32).map (fun i => (i.zero, i.size, i.bytes)) = some (some (.agg #[.string ⟨#[]⟩, .slice none 0 0, .string ⟨#[]⟩]), 3, 56) := by kernel_rfl
end Go.Proofs.YtfibjcaidnofmaaGreatDoor
