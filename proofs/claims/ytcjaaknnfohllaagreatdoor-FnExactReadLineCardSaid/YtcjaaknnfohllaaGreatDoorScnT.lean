/- The reference's reader walked: digits, codes. -/
import Derived.Test.YtcjaaknnfohllaaGreatDoorScnS
import Derived.Test.YtcjaaknnfohllaaGreatDoorNumS
namespace Go.Proofs.YtcjaaknnfohllaaGreatDoor
open Go.RowKit

theorem dS_zero (n : Nat) (l : List UInt8) : dS 0 n l = (n, l) := rfl
theorem dS_nil (k n : Nat) : dS k n [] = (n, []) := by cases k <;> rfl
theorem dS_yes (k n : Nat) (c : UInt8) (l : List UInt8) (h : isDig c = true) : dS (k + 1) n (c :: l) = dS k (10 * n + dg c) l := by
  conv => lhs; unfold dS
  rw [h, if_pos rfl]
theorem dS_no (k n : Nat) (c : UInt8) (l : List UInt8) (h : isDig c = false) : dS (k + 1) n (c :: l) = (n, c :: l) := by
  conv => lhs; unfold dS
  rw [h, if_neg (by decide)]
theorem dS_bound : ∀ (k n m : Nat) (l : List UInt8), n < m → (dS k n l).1 < m * 10 ^ k
  | 0, n, m, _, h => by show n < m * 1; omega
  | k + 1, n, m, [], h => by
    show n < _
    have : m * 1 ≤ m * 10 ^ (k + 1) := Nat.mul_le_mul_left _ (Nat.pow_pos (by decide))
    omega
  | k + 1, n, m, c :: l, h => by
    cases hc : isDig c
    · rw [dS_no k n c l hc]
      show n < _
      have : m * 1 ≤ m * 10 ^ (k + 1) := Nat.mul_le_mul_left _ (Nat.pow_pos (by decide))
      omega
    · rw [dS_yes k n c l hc]
      have h9 := dg_le hc
      have := dS_bound k (10 * n + dg c) (10 * m) l (by omega)
      have e : 10 * m * 10 ^ k = m * 10 ^ (k + 1) := by rw [Nat.pow_succ, Nat.mul_comm 10 m, Nat.mul_assoc, Nat.mul_comm 10]
      omega

set_option maxHeartbeats 8000000 in
set_option maxRecDepth 100000 in
theorem digitsS_any (B : Nat) (T : ByteArray) (a : Nat) (ha : a ≤ T.size) (hT : T.size ≤ 1048576) (w : World) (hB : RdAt w B T a) :
    Calls Tryz.prog 155 #[.pointer (some ⟨B, 0, none⟩)] w fun e w' => e = .returned (.int .i64 ((dS 3 0 (T.data.toList.drop a)).1 : Int)) ∧ RdAt w' B T (T.size - (dS 3 0 (T.data.toList.drop a)).2.length) ∧ Within B (B + 1) w w' := by
  have hBl := hB.lt
  have HB := Lib.hid hB
  generalize hQ : dS 3 0 (T.data.toList.drop a) = Q at *
  have HQ := Lib.hid hQ; clear hQ hB
  go_enter Tryz.func155, Tryz.ntmps155
  go_wp2_with fail
  go_loopw [3, 4] (fun v i wr => ∃ j n p : Nat, j ≤ 3 ∧ n < 10 ^ j ∧ p ≤ T.size ∧ v = .int .i64 n ∧ i = .int .i64 j ∧ RdAt wr B T p ∧ dS (3 - j) n (T.data.toList.drop p) = Q ∧ Within B (B + 1) w wr) (fun _ i _ => 3 - (intOf i).toNat)
  case atStart => exact ⟨0, 0, a, by omega, by decide, ha, rfl, rfl, HB.out, HQ.out, within_refl _ _ _⟩
  case round =>
    obtain ⟨j, n, p, hj, hn, hp, rfl, rfl, hR, hq, hw⟩ := hrel
    have HW := Lib.hid hw; have HR := Lib.hid hR
    have hn3 : n < 1000 := Nat.lt_of_lt_of_le hn (Nat.pow_le_pow_right (by decide) hj)
    have HN := Lib.hid hn
    have f := hR.cell
    have i0 : (0 : Int) ≤ (p : Int) := by omega
    clear hw hR hn
    by_cases hj3 : j < 3
    · have j1 : (j : Int) < 3 := by omega
      have HJ := Lib.hid (show 3 - j = (3 - (j + 1)) + 1 by omega)
      rw [HJ.out] at hq
      by_cases hlt : p < T.size
      · have i1 : (p : Int) < (T.size : Int) := by omega
        rw [drop_at T p hlt] at hq
        cases hd : isDig T[p]
        · rw [dS_no _ _ _ _ hd, ← drop_at T p hlt] at hq
          have HF1 := Lib.hid (show n = Q.1 by rw [← hq])
          have HF2 := Lib.hid (drop_len T p Q.2 hp (by rw [← hq]))
          clear hq
          unfold isDig at hd
          rw [decide_eq_false_iff_not] at hd
          by_cases h48 : 48 ≤ T[p].toNat
          · have c1 : (48 : Int) ≤ (T[p].toNat : Int) := by omega
            have c2 : ¬ (T[p].toNat : Int) ≤ 57 := by omega
            clear hd
            go_wp2_with fail
            go_quiet (fail)
            have R1 : RdAt (wr.drewN nq) B T p := HR.out
            have W1 : Within B (B + 1) w (wr.drewN nq) := HW.out.trans (Within.of_below (below_drewN' wr nq))
            go_wp2_with fail
            go_ret
            exact ⟨by rw [← HF1.out]; rfl, by rw [← HF2.out]; exact R1, W1⟩
          · have c1 : ¬ (48 : Int) ≤ (T[p].toNat : Int) := by omega
            have kd : decide ((48 : Int) ≤ (T[p].toNat : Int)) = false := decide_eq_false c1
            have kd' : decide (48 ≤ T[p].toNat) = false := decide_eq_false h48
            clear hd
            go_wp2_with fail
            go_quiet (fail)
            have R1 : RdAt (wr.drewN nq) B T p := HR.out
            have W1 : Within B (B + 1) w (wr.drewN nq) := HW.out.trans (Within.of_below (below_drewN' wr nq))
            go_wp2_with fail
            go_ret
            exact ⟨by rw [← HF1.out]; rfl, by rw [← HF2.out]; exact R1, W1⟩
        · rw [dS_yes _ _ _ _ hd] at hq
          have HQ2 := Lib.hid hq
          have h9 := dg_le hd
          have hdv : ((T[p].toNat : Int) - 48) = (dg T[p] : Int) := by unfold isDig at hd; unfold dg; simp only [decide_eq_true_eq] at hd; omega
          have c1 : (48 : Int) ≤ (T[p].toNat : Int) := by unfold isDig at hd; simp only [decide_eq_true_eq] at hd; omega
          have c2 : (T[p].toNat : Int) ≤ 57 := by unfold isDig at hd; simp only [decide_eq_true_eq] at hd; omega
          clear hq hd
          have hwr : IntKind.i64.wrap (dg T[p] : Int) = (dg T[p] : Int) := IntWalk.i64_in _ (by omega)
          generalize dg T[p] = dd at *
          go_wp2_with fail
          go_quiet (fail)
          have R1 : RdAt (wr.drewN nq) B T p := HR.out
          have W1 : Within B (B + 1) w (wr.drewN nq) := HW.out.trans (Within.of_below (below_drewN' wr nq))
          generalize wr.drewN nq = wa at *
          clear f
          have f := R1.cell
          go_wp2_with fail
          go_quiet (fail)
          have R2 : RdAt (wa.drewN nq) B T p := R1
          have W2 : Within B (B + 1) w (wa.drewN nq) := W1.trans (Within.of_below (below_drewN' wa nq))
          generalize wa.drewN nq = wb at *
          clear f R1 W1
          have f := R2.cell
          have z := R2.frozen
          have HR3 := Lib.hid (show RdAt (wb.setCell ⟨B, 1, none⟩ (.int .i64 ((p : Int) + 1))) B T (p + 1) from R2.set_ 1 (.int .i64 ((p : Int) + 1)))
          have HW3 := Lib.hid (W2.trans (within_set wb B 1 (.int .i64 ((p : Int) + 1))))
          clear R2 W2
          go_wp2_with fail
          go_roundw
          case rel => exact ⟨j + 1, 10 * n + dd, p + 1, by omega, by rw [Nat.pow_succ]; have := HN.out; omega, by omega, by push_cast; rfl, by go_num, HR3.out, HQ2.out, HW3.out⟩
          case measure => simp [intOf]; omega
      · obtain rfl : p = T.size := by omega
        have i1 : ¬ (T.size : Int) < (T.size : Int) := by omega
        rw [List.drop_of_length_le (by rw [Array.length_toList]; exact Nat.le_refl _), dS_nil] at hq
        have HF1 := Lib.hid (show n = Q.1 by rw [← hq])
        have HF2 := Lib.hid (show T.size = T.size - Q.2.length by rw [← hq]; exact (Nat.sub_zero _).symm)
        clear hq
        go_wp2_with fail
        go_quiet (fail)
        have R1 : RdAt (wr.drewN nq) B T T.size := HR.out
        have W1 : Within B (B + 1) w (wr.drewN nq) := HW.out.trans (Within.of_below (below_drewN' wr nq))
        go_wp2_with fail
        go_ret
        exact ⟨by rw [← HF1.out]; rfl, by rw [← HF2.out]; exact R1, W1⟩
    · have j1 : ¬ (j : Int) < 3 := by omega
      have kd : decide ((j : Int) < 3) = false := decide_eq_false j1
      have kd' : decide (j < 3) = false := decide_eq_false hj3
      rw [show 3 - j = 0 by omega, dS_zero] at hq
      have HF1 := Lib.hid (show n = Q.1 by rw [← hq])
      have HF2 := Lib.hid (drop_len T p Q.2 hp (by rw [← hq]))
      clear hq
      go_wp2_with fail
      go_quiet (fail)
      have R1 : RdAt (wr.drewN nq) B T p := HR.out
      have W1 : Within B (B + 1) w (wr.drewN nq) := HW.out.trans (Within.of_below (below_drewN' wr nq))
      go_wp2_with fail
      go_ret
      exact ⟨by rw [← HF1.out]; rfl, by rw [← HF2.out]; exact R1, W1⟩
end Go.Proofs.YtcjaaknnfohllaaGreatDoor
