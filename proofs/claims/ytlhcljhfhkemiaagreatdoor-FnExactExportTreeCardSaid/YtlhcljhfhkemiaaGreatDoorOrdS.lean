/- The reference's order walked: l02Before, l02SubsBefore, SubsBefore, l03Less. -/
import Derived.Test.YtlhcljhfhkemiaaGreatDoorOrdP
import Derived.Test.YtlhcljhfhkemiaaGreatDoorNodB
import Derived.Test.YtlhcljhfhkemiaaGreatDoorNumU
import Derived.Test.YtlhcljhfhkemiaaGreatDoorRegion
import Derived.StillTailTactics
namespace Go.Proofs.YtlhcljhfhkemiaaGreatDoor
open Go.RowKit

theorem getD_mem0 {α : Type} {fs : List α} {d : α} {k : Nat} (h : k < fs.length) : fs.getD k d ∈ fs := by
  rw [List.getD_eq_getElem?_getD, List.getElem?_eq_getElem h]
  exact List.getElem_mem _

set_option maxHeartbeats 4000000 in
theorem l02Before_any (a b : ByteArray) (ha : a.size ≤ 1048576) (hb : b.size ≤ 1048576) (w : World) : Calls Tryz.prog 128 #[.string a, .string b] w fun e w' => e = .returned (.bool (befT a b)) ∧ Below w.heap.size w w' := by
  have HA := Lib.hid (fun W => l01Canon_any a ha W)
  have HB := Lib.hid (fun W => l01Canon_any b hb W)
  have HNA := Lib.hid (fun W => l01Of_any a ha W)
  have HNB := Lib.hid (fun W => l01Of_any b hb W)
  have HR := Lib.hid (show befT a b = (if canonB a.data.toList && canonB b.data.toList then decide (numOf a.data.toList < numOf b.data.toList) else if canonB a.data.toList != canonB b.data.toList then canonB a.data.toList else Op.bytesLess a.toList b.toList) from rfl)
  generalize befT a b = R at *
  generalize numOf a.data.toList = m at *
  generalize numOf b.data.toList = n at *
  generalize canonB a.data.toList = p at *
  generalize canonB b.data.toList = q at *
  cases p <;> cases q
  all_goals
    go_enter Tryz.func128, Tryz.ntmps128
    go_wp2_with fail
    refine (HA.out _).mono ?_; rintro e1 w1 ⟨rfl, hb1⟩
    have HB1 := Lib.hid hb1; clear hb1
    go_wp2_with fail
    refine (HB.out _).mono ?_; rintro e2 w2 ⟨rfl, hb2⟩
    have HB2 := Lib.hid (HB1.out.trans (hb2.mono HB1.out.size)); clear hb2
    go_wp2_with fail
  · go_ret
    exact ⟨by rw [HR.out]; rfl, HB2.out⟩
  · go_ret
    exact ⟨by rw [HR.out]; rfl, HB2.out⟩
  · go_ret
    exact ⟨by rw [HR.out]; rfl, HB2.out⟩
  · refine (HNA.out _).mono ?_; rintro e3 w3 ⟨rfl, hb3⟩
    have HB3 := Lib.hid (show Below w.heap.size w w3 from by first | exact HB2.out.trans (hb3.mono HB2.out.size) | exact hb3 ▸ HB2.out); clear hb3
    go_wp2_with fail
    refine (HNB.out _).mono ?_; rintro e4 w4 ⟨rfl, hb4⟩
    have HB4 := Lib.hid (show Below w.heap.size w w4 from by first | exact HB3.out.trans (hb4.mono HB3.out.size) | exact hb4 ▸ HB3.out); clear hb4
    go_wp2_with fail
    go_ret
    exact ⟨by rw [HR.out]; rfl, HB4.out⟩

set_option maxHeartbeats 4000000 in
theorem l02SubsBefore_any (A B : Option Addr) (n m c d lo hi lo' hi' : Nat) (xs ys : List ByteArray) (w : World) (ha : StrR w lo hi A n xs) (hb : StrR w lo' hi' B m ys) (hhi : hi ≤ w.heap.size) (hhi' : hi' ≤ w.heap.size)
    (hn : n ≤ 1048576) (hm : m ≤ 1048576) (hsx : ∀ x ∈ xs, x.size ≤ 1048576) (hsy : ∀ x ∈ ys, x.size ≤ 1048576) :
    Calls Tryz.prog 99 #[.slice A n c, .slice B m d] w fun e w' => e = .returned (.bool (befSubs xs ys)) ∧ Below w.heap.size w w' := by
  have HLX := Lib.hid ha.1; have HLY := Lib.hid hb.1
  have HA := Lib.hid ha; have HB := Lib.hid hb
  have HSX := Lib.hid hsx; have HSY := Lib.hid hsy
  clear ha hb hsx hsy
  go_enter Tryz.func99, Tryz.ntmps99
  go_wp2_with fail
  go_loopw [5] (fun i wr => ∃ k q : Nat, k ≤ n ∧ k ≤ m ∧ i = .int .i64 k ∧ wr = w.drewN q ∧ xs.take k = ys.take k) (fun i _ => n - (intOf i).toNat)
  case atStart => exact ⟨0, 0, Nat.zero_le _, Nat.zero_le _, rfl, rfl, rfl⟩
  case round =>
    obtain ⟨k, q, hkn, hkm, rfl, rfl, ht⟩ := hrel
    have HT := Lib.hid ht; clear ht
    by_cases h1 : k < n
    · have i1 : (k : Int) < (n : Int) := by omega
      by_cases h2 : k < m
      · have i2 : (k : Int) < (m : Int) := by omega
        have i0 : (0 : Int) ≤ (k : Int) := by omega
        obtain ⟨ba, oa, rfl, _, hba, ca⟩ := HA.out.at_ h1
        obtain ⟨bb, ob, rfl, _, hbb, cb⟩ := HB.out.at_ h2
        have hk1 : k < xs.length := by rw [HLX.out]; exact h1
        have hk2 : k < ys.length := by rw [HLY.out]; exact h2
        have hX := HSX.out _ (getD_mem0 (d := ByteArray.empty) hk1)
        have hY := HSY.out _ (getD_mem0 (d := ByteArray.empty) hk2)
        have HNX := Lib.hid (fun he => take_next k xs ys HT.out hk1 hk2 he)
        have HAT := Lib.hid (fun hd => befSubs_at k xs ys HT.out hk1 hk2 hd)
        have HBF := Lib.hid (fun W => l02Before_any (xs.getD k ByteArray.empty) (ys.getD k ByteArray.empty) hX hY W)
        generalize xs.getD k ByteArray.empty = X at *
        generalize ys.getD k ByteArray.empty = Y at *
        by_cases he : X = Y
        · have hq : (X.toList == Y.toList) = true := by rw [he]; exact beq_self_eq_true _
          have HE := Lib.hid he
          clear he
          go_wp2_with fail
          go_quiet (fail)
          go_wp2_with fail
          go_roundw
          case rel => exact ⟨k + 1, _, by omega, by omega, by go_num, rfl, HNX.out HE.out⟩
          case measure => simp [intOf]; omega
        · have hq : (X.toList == Y.toList) = false := eqT_false he
          have HE := Lib.hid he
          clear he
          go_wp2_with fail
          go_quiet (fail)
          go_wp2_with fail
          generalize hWW : (w.drewN q).drewN nq = W at *
          have HBW := Lib.hid (show Below w.heap.size w W from hWW ▸ ⟨rfl, rfl, rfl, Nat.le_refl _, fun _ _ => rfl⟩)
          have cA : W.cell? ⟨ba, oa + k, none⟩ = some (.string X) := by rw [← hWW]; exact ca
          have cB : W.cell? ⟨bb, ob + k, none⟩ = some (.string Y) := by rw [← hWW]; exact cb
          have hwa : ba < W.drew.heap.size := (show ba < W.heap.size by have := HBW.out.size; omega)
          have hwb : bb < W.drew.heap.size := (show bb < W.heap.size by have := HBW.out.size; omega)
          have HBd := Lib.hid HBW.out.drew
          clear hWW ca cb
          go_region_held3 (fun w' => w'.cell? ⟨ba, oa + k, none⟩ = some (.string X) ∧ w'.cell? ⟨bb, ob + k, none⟩ = some (.string Y) ∧ Below w.heap.size w w')
            (first | exact ⟨cA, cB, HBW.out⟩ | exact ⟨cA, cB, HBd.out⟩ | exact ⟨(hb5.cell hwa).trans cA, (hb5.cell hwb).trans cB, HBd.out.trans (hb5.mono HBd.out.size)⟩)
            (first | (go_at_call 128; refine (HBF.out _).mono ?_; rintro e5 w5 ⟨rfl, hb5⟩))
          have HB5 := Lib.hid (HBd.out.trans (hb5.mono HBd.out.size))
          clear hb5
          go_wp2_with fail
          go_ret
          exact ⟨by rw [HAT.out HE.out]; rfl, HB5.out⟩
      · have i2 : ¬ (k : Int) < (m : Int) := by omega
        have hR := befSubs_end k xs ys HT.out (by rw [HLX.out]; omega) (by rw [HLY.out]; omega) (.inr (by rw [HLY.out]; omega))
        rw [HLX.out, HLY.out, decide_eq_false (by omega)] at hR
        have HR := Lib.hid hR
        have n1 : ¬ (n : Int) < (m : Int) := by omega
        clear hR
        go_wp2_with fail
        go_ret
        exact ⟨by rw [HR.out]; first | rfl | exact congrArg (fun b => Ending.returned (.bool b)) (by first | rfl | (simp; omega)), below_drewN' _ _⟩
    · have i1 : ¬ (k : Int) < (n : Int) := by omega
      have hR := befSubs_end k xs ys HT.out (by rw [HLX.out]; omega) (by rw [HLY.out]; omega) (.inl (by rw [HLX.out]; omega))
      rw [HLX.out, HLY.out] at hR
      have HR := Lib.hid hR
      clear hR
      by_cases h2 : n < m
      · have n1 : (n : Int) < (m : Int) := by omega
        rw [decide_eq_true h2] at HR
        go_wp2_with fail
        go_ret
        exact ⟨by rw [HR.out]; first | rfl | exact congrArg (fun b => Ending.returned (.bool b)) (by first | rfl | (simp; omega)), below_drewN' _ _⟩
      · have n1 : ¬ (n : Int) < (m : Int) := by omega
        rw [decide_eq_false h2] at HR
        go_wp2_with fail
        go_ret
        exact ⟨by rw [HR.out]; first | rfl | exact congrArg (fun b => Ending.returned (.bool b)) (by first | rfl | (simp; omega)), below_drewN' _ _⟩

set_option maxHeartbeats 1000000 in
theorem specSubsBefore_any (A B : Option Addr) (n m c d lo hi lo' hi' : Nat) (xs ys : List ByteArray) (w : World) (ha : StrR w lo hi A n xs) (hb : StrR w lo' hi' B m ys) (hhi : hi ≤ w.heap.size) (hhi' : hi' ≤ w.heap.size)
    (hn : n ≤ 1048576) (hm : m ≤ 1048576) (hsx : ∀ x ∈ xs, x.size ≤ 1048576) (hsy : ∀ x ∈ ys, x.size ≤ 1048576) :
    Calls Tryz.prog 69 #[.slice A n c, .slice B m d] w fun e w' => e = .returned (.bool (befSubs xs ys)) ∧ Below w.heap.size w w' := by
  have HC := Lib.hid (l02SubsBefore_any A B n m c d lo hi lo' hi' xs ys w ha hb hhi hhi' hn hm hsx hsy)
  go_enter Tryz.func69, Tryz.ntmps69
  go_wp2_with fail
  refine HC.out.mono ?_; rintro e1 w1 ⟨rfl, hb1⟩
  go_wp2_with fail
  go_ret
  exact ⟨rfl, hb1⟩

set_option maxHeartbeats 2000000 in
theorem l03Less_any (s t : ByteArray) (A B : Option Addr) (n m c d lo hi lo' hi' : Nat) (xs ys : List ByteArray) (w : World) (ha : StrR w lo hi A n xs) (hb : StrR w lo' hi' B m ys) (hhi : hi ≤ w.heap.size) (hhi' : hi' ≤ w.heap.size)
    (hn : n ≤ 1048576) (hm : m ≤ 1048576) (hsx : ∀ x ∈ xs, x.size ≤ 1048576) (hsy : ∀ x ∈ ys, x.size ≤ 1048576) :
    Calls Tryz.prog 45 #[.string s, .slice A n c, .string t, .slice B m d] w fun e w' => e = .returned (.bool (befLoc s xs t ys)) ∧ Below w.heap.size w w' := by
  have HC := Lib.hid (specSubsBefore_any A B n m c d lo hi lo' hi' xs ys w ha hb hhi hhi' hn hm hsx hsy)
  have HR := Lib.hid (show befLoc s xs t ys = (Op.bytesLess s.toList t.toList || ((s.toList == t.toList) && befSubs xs ys)) from rfl)
  generalize befLoc s xs t ys = R at *
  generalize befSubs xs ys = S at *
  clear ha hb
  cases hl : Op.bytesLess s.toList t.toList
  · rw [hl] at HR
    cases he : (s.toList == t.toList)
    · rw [he] at HR
      go_enter Tryz.func45, Tryz.ntmps45
      go_wp2_with fail
      go_ret
      exact ⟨by rw [HR.out]; rfl, Below.refl _ _⟩
    · rw [he] at HR
      go_enter Tryz.func45, Tryz.ntmps45
      go_wp2_with fail
      refine HC.out.mono ?_; rintro e1 w1 ⟨rfl, hb1⟩
      go_wp2_with fail
      go_ret
      exact ⟨by rw [HR.out]; rfl, hb1⟩
  · rw [hl] at HR
    go_enter Tryz.func45, Tryz.ntmps45
    go_wp2_with fail
    go_ret
    exact ⟨by rw [HR.out]; rfl, Below.refl _ _⟩
end Go.Proofs.YtlhcljhfhkemiaaGreatDoor
