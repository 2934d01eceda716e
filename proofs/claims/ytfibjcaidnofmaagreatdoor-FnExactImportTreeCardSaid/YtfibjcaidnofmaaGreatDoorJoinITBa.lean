/- The program's order walked: cmp.Compare, collate, slices.CompareFunc, cmp.Or, compareLocations. -/
import Derived.Test.YtfibjcaidnofmaaGreatDoorJoinITAh
import Derived.Test.YtfibjcaidnofmaaGreatDoorJoinITAq
import Derived.Test.YtfibjcaidnofmaaGreatDoorJoinITAu
namespace Go.Proofs.YtfibjcaidnofmaaGreatDoor
open Go.RowKit

set_option maxHeartbeats 1000000 in
theorem nanS_any (a : ByteArray) (w : World) : Calls Tryz.prog 156 #[.string a] w fun e w' => e = .returned (.bool false) ∧ w = w' := by
  have hq : (a.toList == a.toList) = true := beq_self_eq_true _
  go_enter Tryz.func156, Tryz.ntmps156
  go_wp2_with fail
  go_ret
  exact ⟨rfl, rfl⟩
set_option maxHeartbeats 1000000 in
theorem nanI_any (a : Int) (w : World) : Calls Tryz.prog 221 #[.int .i64 a] w fun e w' => e = .returned (.bool false) ∧ w = w' := by
  have hq : (a == a) = true := beq_self_eq_true _
  have hq2 : (a != a) = false := bne_self_eq_false _
  go_enter Tryz.func221, Tryz.ntmps221
  go_wp2_with fail
  go_ret
  exact ⟨rfl, rfl⟩
set_option maxHeartbeats 2000000 in
theorem cmpStr_any (a b : ByteArray) (w : World) : Calls Tryz.prog 107 #[.string a, .string b] w fun e w' => e = .returned (.int .i64 (cmpS a b)) ∧ w = w' := by
  have HA := Lib.hid (fun W => nanS_any a W)
  have HB := Lib.hid (fun W => nanS_any b W)
  have HR := Lib.hid (show cmpS a b = (if Op.bytesLess a.toList b.toList then -1 else if (a.toList == b.toList) then 0 else 1) from rfl)
  generalize cmpS a b = R at *
  cases hl : Op.bytesLess a.toList b.toList <;> rw [hl] at HR <;> cases he : (a.toList == b.toList) <;> rw [he] at HR
  all_goals
    go_enter Tryz.func107, Tryz.ntmps107
    go_wp2_with fail
    refine (HA.out _).mono ?_; rintro e1 w1 ⟨rfl, rfl⟩
    go_wp2_with fail
    refine (HB.out _).mono ?_; rintro e1 w1 ⟨rfl, rfl⟩
    go_wp2_with fail
    go_ret
    exact ⟨by rw [HR.out]; rfl, rfl⟩
set_option maxHeartbeats 2000000 in
theorem cmpInt_any (a b : Int) (w : World) : Calls Tryz.prog 195 #[.int .i64 a, .int .i64 b] w fun e w' => e = .returned (.int .i64 (cmpI a b)) ∧ w = w' := by
  have HA := Lib.hid (fun W => nanI_any a W)
  have HB := Lib.hid (fun W => nanI_any b W)
  have HR := Lib.hid (show cmpI a b = (if a < b then -1 else if a = b then 0 else 1) from rfl)
  generalize cmpI a b = R at *
  rcases Int.lt_trichotomy a b with h | h | h
  · rw [if_pos h] at HR
    go_enter Tryz.func195, Tryz.ntmps195
    go_wp2_with fail
    refine (HA.out _).mono ?_; rintro e1 w1 ⟨rfl, rfl⟩
    go_wp2_with fail
    refine (HB.out _).mono ?_; rintro e1 w1 ⟨rfl, rfl⟩
    go_wp2_with fail
    go_ret
    exact ⟨by rw [HR.out]; rfl, rfl⟩
  · rw [if_neg (by omega), if_pos h] at HR
    subst h
    have n1 : ¬ a < a := by omega
    go_enter Tryz.func195, Tryz.ntmps195
    go_wp2_with fail
    refine (HA.out _).mono ?_; rintro e1 w1 ⟨rfl, rfl⟩
    go_wp2_with fail
    refine (HB.out _).mono ?_; rintro e1 w1 ⟨rfl, rfl⟩
    go_wp2_with fail
    go_ret
    exact ⟨by rw [HR.out]; rfl, rfl⟩
  · rw [if_neg (by omega), if_neg (by omega)] at HR
    have n1 : ¬ a < b := by omega
    go_enter Tryz.func195, Tryz.ntmps195
    go_wp2_with fail
    refine (HA.out _).mono ?_; rintro e1 w1 ⟨rfl, rfl⟩
    go_wp2_with fail
    refine (HB.out _).mono ?_; rintro e1 w1 ⟨rfl, rfl⟩
    go_wp2_with fail
    go_ret
    exact ⟨by rw [HR.out]; rfl, rfl⟩

set_option maxHeartbeats 4000000 in
theorem collate_any (a b : ByteArray) (ha : a.size ≤ 65536) (hb : b.size ≤ 65536) (w : World) (hT : TabsIn w) : Calls Tryz.prog 158 #[.string a, .string b] w fun e w' => e = .returned (.int .i64 (cmpT a b)) ∧ Below w.heap.size w w' := by
  have HT := Lib.hid hT; clear hT
  have HA := Lib.hid (fun W h => implIsCanon_any a ha W h)
  have HB := Lib.hid (fun W h => implIsCanon_any b hb W h)
  have HNA := Lib.hid (fun W => numOf_any a ha W)
  have HNB := Lib.hid (fun W => numOf_any b hb W)
  have HCI := Lib.hid (fun x y W => cmpInt_any x y W)
  have HCS := Lib.hid (fun W => cmpStr_any a b W)
  have HR := Lib.hid (show cmpT a b = (if canonB a.data.toList && canonB b.data.toList then cmpI (numOf a.data.toList) (numOf b.data.toList) else if canonB a.data.toList then -1 else if canonB b.data.toList then 1 else cmpS a b) from rfl)
  generalize cmpT a b = R at *
  generalize cmpS a b = S at *
  generalize numOf a.data.toList = m at *
  generalize numOf b.data.toList = n at *
  generalize canonB a.data.toList = p at *
  generalize canonB b.data.toList = q at *
  cases p <;> cases q
  all_goals
    go_enter Tryz.func158, Tryz.ntmps158
    go_wp2_with fail
    refine (HA.out _ HT.out).mono ?_; rintro e1 w1 ⟨rfl, hb1⟩
    have HB1 := Lib.hid hb1; clear hb1
    go_wp2_with fail
    refine (HB.out _ (HT.out.below HB1.out)).mono ?_; rintro e2 w2 ⟨rfl, hb2⟩
    have HB2 := Lib.hid (HB1.out.trans (hb2.mono HB1.out.size)); clear hb2
    go_wp2_with fail
  · refine (HCS.out _).mono ?_; rintro e3 w3 ⟨rfl, rfl⟩
    go_wp2_with fail
    go_ret
    exact ⟨by rw [HR.out]; rfl, HB2.out⟩
  · go_ret
    exact ⟨by rw [HR.out]; rfl, HB2.out⟩
  · go_ret
    exact ⟨by rw [HR.out]; rfl, HB2.out⟩
  · refine (HNA.out _).mono ?_; rintro e3 w3 ⟨rfl, hb3⟩
    have HB3 := Lib.hid (HB2.out.trans (hb3.mono HB2.out.size)); clear hb3
    go_wp2_with fail
    refine (HNB.out _).mono ?_; rintro e4 w4 ⟨rfl, hb4⟩
    have HB4 := Lib.hid (HB3.out.trans (hb4.mono HB3.out.size)); clear hb4
    go_wp2_with fail
    refine (HCI.out _ _ _).mono ?_; rintro e5 w5 ⟨rfl, rfl⟩
    go_wp2_with fail
    go_ret
    exact ⟨by rw [HR.out]; rfl, HB4.out⟩

set_option maxHeartbeats 4000000 in
theorem compareFunc_any (A B : Option Addr) (n m c d lo hi lo' hi' : Nat) (xs ys : List ByteArray) (w : World) (hT : TabsIn w) (ha : StrR w lo hi A n xs) (hb : StrR w lo' hi' B m ys) (hhi : hi ≤ w.heap.size) (hhi' : hi' ≤ w.heap.size)
    (hn : n ≤ 1048576) (hm : m ≤ 1048576) (hsx : ∀ x ∈ xs, x.size ≤ 65536) (hsy : ∀ x ∈ ys, x.size ≤ 65536) :
    Calls Tryz.prog 157 #[.slice A n c, .slice B m d, .func (.func 158) #[] #[]] w fun e w' => e = .returned (.int .i64 (cmpSubs xs ys)) ∧ Below w.heap.size w w' := by
  have HLX := Lib.hid ha.1; have HLY := Lib.hid hb.1
  have HA := Lib.hid ha; have HB := Lib.hid hb
  have HSX := Lib.hid hsx; have HSY := Lib.hid hsy
  have HTB := Lib.hid hT
  clear ha hb hsx hsy hT
  go_enter Tryz.func157, Tryz.ntmps157
  go_wp2_with fail
  go_loopw [13] (fun i wr => ∃ k : Nat, k ≤ n ∧ k ≤ m ∧ i = .int .i64 k ∧ xs.take k = ys.take k ∧ Below w.heap.size w wr) (fun i _ => n - (intOf i).toNat)
  case atStart => exact ⟨0, Nat.zero_le _, Nat.zero_le _, rfl, rfl, Below.refl _ _⟩
  case round =>
    obtain ⟨k, hkn, hkm, rfl, ht, hbr⟩ := hrel
    have HT := Lib.hid ht; clear ht
    have HBR := Lib.hid hbr
    by_cases h1 : k < n
    · have i1 : (k : Int) < (n : Int) := by omega
      have i0 : (0 : Int) ≤ (k : Int) := by omega
      obtain ⟨ba, oa, rfl, _, hba, ca⟩ := (HA.out.below hbr hhi).at_ h1
      have hk1 : k < xs.length := by rw [HLX.out]; exact h1
      by_cases h2 : k < m
      · have i2 : ¬ (m : Int) ≤ (k : Int) := by omega
        have i3 : (k : Int) < (m : Int) := by omega
        obtain ⟨bb, ob, rfl, _, hbb, cb⟩ := (HB.out.below hbr hhi').at_ h2
        have hk2 : k < ys.length := by rw [HLY.out]; exact h2
        have hX := HSX.out _ (getD_mem0 (d := ByteArray.empty) hk1)
        have hY := HSY.out _ (getD_mem0 (d := ByteArray.empty) hk2)
        have HNX := Lib.hid (fun he => take_next k xs ys HT.out hk1 hk2 he)
        have HAT := Lib.hid (fun hd => cmpSubs_at k xs ys HT.out hk1 hk2 hd)
        have HCO := Lib.hid (collate_any (xs.getD k ByteArray.empty) (ys.getD k ByteArray.empty) hX hY wr (HTB.out.below hbr))
        have HZ := Lib.hid (cmpT_zero (xs.getD k ByteArray.empty) (ys.getD k ByteArray.empty))
        clear hbr
        generalize xs.getD k ByteArray.empty = X at *
        generalize ys.getD k ByteArray.empty = Y at *
        generalize cmpT X Y = C at *
        by_cases hc : C = 0
        · have HX := Lib.hid (HNX.out (HZ.out.1 hc))
          subst hc
          go_wp2_with fail
          refine HCO.out.mono ?_; rintro e5 w5 ⟨rfl, hb5⟩
          have HB5 := Lib.hid (HBR.out.trans (hb5.mono HBR.out.size)); clear hb5
          go_wp2_with fail
          go_roundw
          case rel => exact ⟨k + 1, by omega, by omega, by go_num, HX.out, HB5.out⟩
          case measure => simp [intOf]; omega
        · have HX := Lib.hid (HAT.out hc)
          have q0 : (C == 0) = false := by rw [beq_eq_false_iff_ne]; exact hc
          have q1 : (C != 0) = true := by rw [bne, q0]; rfl
          go_wp2_with fail
          refine HCO.out.mono ?_; rintro e5 w5 ⟨rfl, hb5⟩
          have HB5 := Lib.hid (HBR.out.trans (hb5.mono HBR.out.size)); clear hb5
          go_wp2_with fail
          go_ret
          exact ⟨by rw [HX.out]; rfl, HB5.out⟩
      · have i2 : (m : Int) ≤ (k : Int) := by omega
        obtain rfl : k = m := by omega
        have HX := Lib.hid (cmpSubs_long xs ys (by have := HT.out; rw [HLY.out]; rw [this, List.take_of_length_le (by rw [HLY.out]; omega)]) (by rw [HLY.out]; exact hk1))
        go_wp2_with fail
        go_ret
        exact ⟨by rw [HX.out]; rfl, HBR.out⟩
    · have i1 : ¬ (k : Int) < (n : Int) := by omega
      obtain rfl : k = n := by omega
      have ht' := HT.out
      rw [List.take_of_length_le (by rw [HLX.out]; omega)] at ht'
      have HTX := Lib.hid ht'
      clear ht'
      by_cases h2 : k < m
      · have i2 : (k : Int) < (m : Int) := by omega
        have HX := Lib.hid (cmpSubs_short xs ys (by rw [HLX.out]; exact HTX.out) (by rw [HLX.out, HLY.out]; exact h2))
        go_wp2_with fail
        go_ret
        exact ⟨by rw [HX.out]; rfl, HBR.out⟩
      · have i2 : ¬ (k : Int) < (m : Int) := by omega
        have hxy : xs = ys := by
          have := HTX.out
          rwa [List.take_of_length_le (by rw [HLY.out]; omega)] at this
        have HX := Lib.hid (show cmpSubs xs ys = 0 by rw [hxy]; exact cmpSubs_same ys)
        clear hxy
        go_wp2_with fail
        go_ret
        exact ⟨by rw [HX.out]; rfl, HBR.out⟩

set_option maxHeartbeats 1000000 in
theorem collateLists_any (A B : Option Addr) (n m c d lo hi lo' hi' : Nat) (xs ys : List ByteArray) (w : World) (hT : TabsIn w) (ha : StrR w lo hi A n xs) (hb : StrR w lo' hi' B m ys) (hhi : hi ≤ w.heap.size) (hhi' : hi' ≤ w.heap.size)
    (hn : n ≤ 1048576) (hm : m ≤ 1048576) (hsx : ∀ x ∈ xs, x.size ≤ 65536) (hsy : ∀ x ∈ ys, x.size ≤ 65536) :
    Calls Tryz.prog 108 #[.slice A n c, .slice B m d] w fun e w' => e = .returned (.int .i64 (cmpSubs xs ys)) ∧ Below w.heap.size w w' := by
  have HC := Lib.hid (compareFunc_any A B n m c d lo hi lo' hi' xs ys w hT ha hb hhi hhi' hn hm hsx hsy)
  go_enter Tryz.func108, Tryz.ntmps108
  go_wp2_with fail
  refine HC.out.mono ?_; rintro e1 w1 ⟨rfl, hb1⟩
  go_wp2_with fail
  go_ret
  exact ⟨rfl, hb1⟩

set_option maxHeartbeats 1000000 in
theorem cmpOr_any (b c : Nat) (x y : Int) (w : World) (h0 : w.cell? ⟨b, 0, none⟩ = some (.int .i64 x)) (h1 : w.cell? ⟨b, 1, none⟩ = some (.int .i64 y)) :
    Calls Tryz.prog 106 #[.slice (some ⟨b, 0, none⟩) 2 c] w fun e w' => e = .returned (.int .i64 (if x = 0 then y else x)) ∧ w = w' := by
  by_cases hx : x = 0
  · subst hx
    rw [if_pos rfl]
    by_cases hy : y = 0
    · subst hy
      go_enter Tryz.func106, Tryz.ntmps106
      go_wp2_with fail
      go_loop [8] (fun i => ∃ k : Nat, k ≤ 2 ∧ i = .int .i64 k) (fun i => 2 - (intOf i).toNat)
      case atStart => exact ⟨0, by omega, rfl⟩
      case round =>
        obtain ⟨k, hk, rfl⟩ := hrel
        by_cases h2 : k < 2
        · have i1 : (k : Int) < 2 := by omega
          have i0 : (0 : Int) ≤ (k : Int) := by omega
          have hc : w.cell? ⟨b, 0 + k, none⟩ = some (.int .i64 0) := by
            rcases (show k = 0 ∨ k = 1 by omega) with e | e
            · subst e; exact h0
            · subst e; exact h1
          have hc' : w.cell? ⟨b, k, none⟩ = some (.int .i64 0) := by rw [Nat.zero_add] at hc; exact hc
          clear h0 h1
          go_wp2_with fail
          go_round
          case rel => exact ⟨k + 1, by omega, by go_num⟩
          case measure => simp [intOf]; omega
        · have i1 : ¬ (k : Int) < 2 := by omega
          go_wp2_with fail
          go_ret
          exact ⟨rfl, rfl⟩
    · have q1 : (y != 0) = true := by rw [bne_iff_ne]; exact hy
      go_enter Tryz.func106, Tryz.ntmps106
      go_wp2_with fail
      go_loop [8] (fun i => ∃ k : Nat, k ≤ 1 ∧ i = .int .i64 k) (fun i => 2 - (intOf i).toNat)
      case atStart => exact ⟨0, by omega, rfl⟩
      case round =>
        obtain ⟨k, hk, rfl⟩ := hrel
        have i1 : (k : Int) < 2 := by omega
        have i0 : (0 : Int) ≤ (k : Int) := by omega
        rcases (show k = 0 ∨ k = 1 by omega) with e | e
        · subst e
          go_wp2_with fail
          go_round
          case rel => exact ⟨1, by omega, by go_num⟩
          case measure => simp [intOf]
        · subst e
          go_wp2_with fail
          go_ret
          exact ⟨rfl, rfl⟩
  · have q1 : (x != 0) = true := by rw [bne_iff_ne]; exact hx
    rw [if_neg hx]
    go_enter Tryz.func106, Tryz.ntmps106
    go_wp2_with fail
    go_loop [8] (fun i => i = .int .i64 0) (fun _ => 0)
    case atStart => rfl
    case round =>
      obtain rfl := hrel
      go_wp2_with fail
      go_ret
      exact ⟨rfl, rfl⟩

set_option maxHeartbeats 1000000 in
theorem compareLocations_any (s t : ByteArray) (A B : Option Addr) (n m c d lo hi lo' hi' : Nat) (xs ys : List ByteArray) (w : World) (hT : TabsIn w) (ha : StrR w lo hi A n xs) (hb : StrR w lo' hi' B m ys) (hhi : hi ≤ w.heap.size) (hhi' : hi' ≤ w.heap.size)
    (hn : n ≤ 1048576) (hm : m ≤ 1048576) (hsx : ∀ x ∈ xs, x.size ≤ 65536) (hsy : ∀ x ∈ ys, x.size ≤ 65536) :
    Calls Tryz.prog 47 #[.string s, .slice A n c, .string t, .slice B m d] w fun e w' => e = .returned (.int .i64 (cmpLoc s xs t ys)) ∧ Below w.heap.size w w' := by
  have HC := Lib.hid (collateLists_any A B n m c d lo hi lo' hi' xs ys w hT ha hb hhi hhi' hn hm hsx hsy)
  have HS := Lib.hid (fun W => cmpStr_any s t W)
  have HR := Lib.hid (show cmpLoc s xs t ys = (if cmpS s t = 0 then cmpSubs xs ys else cmpS s t) from rfl)
  generalize cmpLoc s xs t ys = R at *
  generalize cmpS s t = p at *
  generalize cmpSubs xs ys = q at *
  clear ha hb
  go_enter Tryz.func47, Tryz.ntmps47
  go_wp2_with fail
  refine (HS.out _).mono ?_; rintro e1 w1 ⟨rfl, rfl⟩
  go_wp2_with fail
  refine HC.out.mono ?_; rintro e2 w2 ⟨rfl, hb2⟩
  have HB2 := Lib.hid hb2; clear hb2
  go_wp2_with fail
  have B2 := (Blk.new w2 3 #[.int .i64 p, .int .i64 q])
  have HB3 := Lib.hid (HB2.out.alloc HB2.out.size (.cells #[.int .i64 p, .int .i64 q] 3))
  refine (cmpOr_any _ _ p q _ (B2.cell 0) (B2.cell 1)).mono ?_; rintro e3 w3 ⟨rfl, rfl⟩
  clear B2
  rw [← HR.out]
  go_wp2_with fail
  go_ret
  exact ⟨rfl, HB3.out⟩
end Go.Proofs.YtfibjcaidnofmaaGreatDoor

namespace Go.Proofs.YtfibjcaidnofmaaGreatDoor
open Go.RowKit

def treAt (ns : List Nod) (j : Nat) : Bool := nodB (ns.getD j nodD) && (decide (j = 0) || befLoc (ns.getD (j - 1) nodD).name (ns.getD (j - 1) nodD).subs (ns.getD j nodD).name (ns.getD j nodD).subs)
def treTo (ns : List Nod) (k : Nat) : Bool := (List.range k).all (treAt ns)
def treB (ns : List Nod) : Bool := decide (ns.length ≤ 120) && treTo ns ns.length
theorem treTo_succ (ns : List Nod) (k : Nat) : treTo ns (k + 1) = (treTo ns k && treAt ns k) := by
  unfold treTo
  rw [List.range_succ, List.all_append, List.all_cons, List.all_nil, Bool.and_true]
theorem treTo_no (ns : List Nod) (k : Nat) (hk : k < ns.length) (h : treAt ns k = false) : treTo ns ns.length = false := by
  unfold treTo
  rw [List.all_eq_false]
  exact ⟨k, List.mem_range.2 hk, by rw [h]; simp⟩
theorem treTo_nod (ns : List Nod) (k j : Nat) (hj : j < k) (h : treTo ns k = true) : nodB (ns.getD j nodD) = true := by
  unfold treTo at h
  have := (List.all_eq_true.1 h) j (List.mem_range.2 hj)
  unfold treAt at this
  exact (Bool.and_eq_true_iff.1 this).1
theorem treAt_first (ns : List Nod) (k : Nat) (h0 : k = 0) : treAt ns k = nodB (ns.getD k nodD) := by
  unfold treAt
  rw [decide_eq_true h0, Bool.true_or, Bool.and_true]
theorem treAt_next (ns : List Nod) (k : Nat) (h0 : k ≠ 0) : treAt ns k = (nodB (ns.getD k nodD) && befLoc (ns.getD (k - 1) nodD).name (ns.getD (k - 1) nodD).subs (ns.getD k nodD).name (ns.getD k nodD).subs) := by
  unfold treAt
  rw [decide_eq_false h0, Bool.false_or]
theorem treAt_bad (ns : List Nod) (k : Nat) (h : nodB (ns.getD k nodD) = false) : treAt ns k = false := by
  unfold treAt
  rw [h, Bool.false_and]
theorem NodesR.block {b off b' off' : Nat} (h : (some (⟨b, off, none⟩ : Addr)) = some ⟨b', off', none⟩) : b = b' ∧ off = off' := by
  injection h with h; injection h with h1 h2; exact ⟨h1, h2⟩
theorem nodB_facts0 {x : Nod} (h : nodB x = true) : ∀ y ∈ x.subs, y.size ≤ 24 := fun y hy => by
  unfold nodB subsB at h
  simp only [Bool.and_eq_true, decide_eq_true_eq] at h
  have := (List.all_eq_true.1 h.1.2.2) y hy
  unfold subB at this
  simp only [Bool.and_eq_true, decide_eq_true_eq] at this
  exact this.2
theorem RowR.drew0 {α : Type} {enc : α → Value} {d : α} {w : World} {lo hi : Nat} {A : Option Addr} {n : Nat} {xs : List α} (h : RowR enc d w lo hi A n xs) : RowR enc d w.drew lo hi A n xs := h.drewN 1

end Go.Proofs.YtfibjcaidnofmaaGreatDoor

