/- The reference's reader walked: digits, codes. -/
import Derived.Test.YtcjaaknnfohllaaGreatDoorJoinRSAAl
import Derived.Test.YtcjaaknnfohllaaGreatDoorJoinRSAAf
import Derived.Test.YtcjaaknnfohllaaGreatDoorShelfM
import Derived.Test.YtcjaaknnfohllaaGreatDoorShelfB
import Derived.Test.YtcjaaknnfohllaaGreatDoorJoinRSAAa
import Derived.Shelf.Strings.BuilderK
namespace Go.Proofs.YtcjaaknnfohllaaGreatDoor
open Go.RowKit

theorem dS_zero (n : Nat) (l : List UInt8) : dS 0 n l = (n, l) := rfl
theorem dS_nil (k n : Nat) : dS k n [] = (n, []) := by cases k <;> rfl
theorem dS_yes (k n : Nat) (c : UInt8) (l : List UInt8) (h : isDig c = true) : dS (k + 1) n (c :: l) = dS k (10 * n + dg c) l := by
  conv => lhs; unfold dS
  rw [h, if_pos rfl]
theorem dS_no (k n : Nat) (c : UInt8) (l : List UInt8) (h : isDig c = false) : dS (k + 1) n (c :: l) = (n, c :: l) := by
  conv => lhs; unfold dS
  rw [h, if_neg (by decide)]
theorem dS_bound : ∀ (k n m : Nat) (l : List UInt8), n < m → (dS k n l).1 < m * 10 ^ k
  | 0, n, m, _, h => by show n < m * 1; omega
  | k + 1, n, m, [], h => by
    show n < _
    have : m * 1 ≤ m * 10 ^ (k + 1) := Nat.mul_le_mul_left _ (Nat.pow_pos (by decide))
    omega
  | k + 1, n, m, c :: l, h => by
    cases hc : isDig c
    · rw [dS_no k n c l hc]
      show n < _
      have : m * 1 ≤ m * 10 ^ (k + 1) := Nat.mul_le_mul_left _ (Nat.pow_pos (by decide))
      omega
    · rw [dS_yes k n c l hc]
      have h9 := dg_le hc
      have := dS_bound k (10 * n + dg c) (10 * m) l (by omega)
      have e : 10 * m * 10 ^ k = m * 10 ^ (k + 1) := by rw [Nat.pow_succ, Nat.mul_comm 10 m, Nat.mul_assoc, Nat.mul_comm 10]
      omega

set_option maxHeartbeats 8000000 in
set_option maxRecDepth 100000 in
theorem digitsS_any (B : Nat) (T : ByteArray) (a : Nat) (ha : a ≤ T.size) (hT : T.size ≤ 1048576) (w : World) (hB : RdAt w B T a) :
    Calls Tryz.prog 155 #[.pointer (some ⟨B, 0, none⟩)] w fun e w' => e = .returned (.int .i64 ((dS 3 0 (T.data.toList.drop a)).1 : Int)) ∧ RdAt w' B T (T.size - (dS 3 0 (T.data.toList.drop a)).2.length) ∧ Within B (B + 1) w w' := by
  have hBl := hB.lt
  have HB := Lib.hid hB
  generalize hQ : dS 3 0 (T.data.toList.drop a) = Q at *
  have HQ := Lib.hid hQ; clear hQ hB
  go_enter Tryz.func155, Tryz.ntmps155
  go_wp2_with fail
  go_loopw [3, 4] (fun v i wr => ∃ j n p : Nat, j ≤ 3 ∧ n < 10 ^ j ∧ p ≤ T.size ∧ v = .int .i64 n ∧ i = .int .i64 j ∧ RdAt wr B T p ∧ dS (3 - j) n (T.data.toList.drop p) = Q ∧ Within B (B + 1) w wr) (fun _ i _ => 3 - (intOf i).toNat)
  case atStart => exact ⟨0, 0, a, by omega, by decide, ha, rfl, rfl, HB.out, HQ.out, within_refl _ _ _⟩
  case round =>
    obtain ⟨j, n, p, hj, hn, hp, rfl, rfl, hR, hq, hw⟩ := hrel
    have HW := Lib.hid hw; have HR := Lib.hid hR
    have hn3 : n < 1000 := Nat.lt_of_lt_of_le hn (Nat.pow_le_pow_right (by decide) hj)
    have HN := Lib.hid hn
    have f := hR.cell
    have i0 : (0 : Int) ≤ (p : Int) := by omega
    clear hw hR hn
    by_cases hj3 : j < 3
    · have j1 : (j : Int) < 3 := by omega
      have HJ := Lib.hid (show 3 - j = (3 - (j + 1)) + 1 by omega)
      rw [HJ.out] at hq
      by_cases hlt : p < T.size
      · have i1 : (p : Int) < (T.size : Int) := by omega
        rw [drop_at T p hlt] at hq
        cases hd : isDig T[p]
        · rw [dS_no _ _ _ _ hd, ← drop_at T p hlt] at hq
          have HF1 := Lib.hid (show n = Q.1 by rw [← hq])
          have HF2 := Lib.hid (drop_len T p Q.2 hp (by rw [← hq]))
          clear hq
          unfold isDig at hd
          rw [decide_eq_false_iff_not] at hd
          by_cases h48 : 48 ≤ T[p].toNat
          · have c1 : (48 : Int) ≤ (T[p].toNat : Int) := by omega
            have c2 : ¬ (T[p].toNat : Int) ≤ 57 := by omega
            clear hd
            go_wp2_with fail
            go_quiet (fail)
            have R1 : RdAt (wr.drewN nq) B T p := HR.out
            have W1 : Within B (B + 1) w (wr.drewN nq) := HW.out.trans (Within.of_below (below_drewN' wr nq))
            go_wp2_with fail
            go_ret
            exact ⟨by rw [← HF1.out]; rfl, by rw [← HF2.out]; exact R1, W1⟩
          · have c1 : ¬ (48 : Int) ≤ (T[p].toNat : Int) := by omega
            have kd : decide ((48 : Int) ≤ (T[p].toNat : Int)) = false := decide_eq_false c1
            have kd' : decide (48 ≤ T[p].toNat) = false := decide_eq_false h48
            clear hd
            go_wp2_with fail
            go_quiet (fail)
            have R1 : RdAt (wr.drewN nq) B T p := HR.out
            have W1 : Within B (B + 1) w (wr.drewN nq) := HW.out.trans (Within.of_below (below_drewN' wr nq))
            go_wp2_with fail
            go_ret
            exact ⟨by rw [← HF1.out]; rfl, by rw [← HF2.out]; exact R1, W1⟩
        · rw [dS_yes _ _ _ _ hd] at hq
          have HQ2 := Lib.hid hq
          have h9 := dg_le hd
          have hdv : ((T[p].toNat : Int) - 48) = (dg T[p] : Int) := by unfold isDig at hd; unfold dg; simp only [decide_eq_true_eq] at hd; omega
          have c1 : (48 : Int) ≤ (T[p].toNat : Int) := by unfold isDig at hd; simp only [decide_eq_true_eq] at hd; omega
          have c2 : (T[p].toNat : Int) ≤ 57 := by unfold isDig at hd; simp only [decide_eq_true_eq] at hd; omega
          clear hq hd
          have hwr : IntKind.i64.wrap (dg T[p] : Int) = (dg T[p] : Int) := IntWalk.i64_in _ (by omega)
          generalize dg T[p] = dd at *
          go_wp2_with fail
          go_quiet (fail)
          have R1 : RdAt (wr.drewN nq) B T p := HR.out
          have W1 : Within B (B + 1) w (wr.drewN nq) := HW.out.trans (Within.of_below (below_drewN' wr nq))
          generalize wr.drewN nq = wa at *
          clear f
          have f := R1.cell
          go_wp2_with fail
          go_quiet (fail)
          have R2 : RdAt (wa.drewN nq) B T p := R1
          have W2 : Within B (B + 1) w (wa.drewN nq) := W1.trans (Within.of_below (below_drewN' wa nq))
          generalize wa.drewN nq = wb at *
          clear f R1 W1
          have f := R2.cell
          have z := R2.frozen
          have HR3 := Lib.hid (show RdAt (wb.setCell ⟨B, 1, none⟩ (.int .i64 ((p : Int) + 1))) B T (p + 1) from R2.set_ 1 (.int .i64 ((p : Int) + 1)))
          have HW3 := Lib.hid (W2.trans (within_set wb B 1 (.int .i64 ((p : Int) + 1))))
          clear R2 W2
          go_wp2_with fail
          go_roundw
          case rel => exact ⟨j + 1, 10 * n + dd, p + 1, by omega, by rw [Nat.pow_succ]; have := HN.out; omega, by omega, by push_cast; rfl, by go_num, HR3.out, HQ2.out, HW3.out⟩
          case measure => simp [intOf]; omega
      · obtain rfl : p = T.size := by omega
        have i1 : ¬ (T.size : Int) < (T.size : Int) := by omega
        rw [List.drop_of_length_le (by rw [Array.length_toList]; exact Nat.le_refl _), dS_nil] at hq
        have HF1 := Lib.hid (show n = Q.1 by rw [← hq])
        have HF2 := Lib.hid (show T.size = T.size - Q.2.length by rw [← hq]; exact (Nat.sub_zero _).symm)
        clear hq
        go_wp2_with fail
        go_quiet (fail)
        have R1 : RdAt (wr.drewN nq) B T T.size := HR.out
        have W1 : Within B (B + 1) w (wr.drewN nq) := HW.out.trans (Within.of_below (below_drewN' wr nq))
        go_wp2_with fail
        go_ret
        exact ⟨by rw [← HF1.out]; rfl, by rw [← HF2.out]; exact R1, W1⟩
    · have j1 : ¬ (j : Int) < 3 := by omega
      have kd : decide ((j : Int) < 3) = false := decide_eq_false j1
      have kd' : decide (j < 3) = false := decide_eq_false hj3
      rw [show 3 - j = 0 by omega, dS_zero] at hq
      have HF1 := Lib.hid (show n = Q.1 by rw [← hq])
      have HF2 := Lib.hid (drop_len T p Q.2 hp (by rw [← hq]))
      clear hq
      go_wp2_with fail
      go_quiet (fail)
      have R1 : RdAt (wr.drewN nq) B T p := HR.out
      have W1 : Within B (B + 1) w (wr.drewN nq) := HW.out.trans (Within.of_below (below_drewN' wr nq))
      go_wp2_with fail
      go_ret
      exact ⟨by rw [← HF1.out]; rfl, by rw [← HF2.out]; exact R1, W1⟩
end Go.Proofs.YtcjaaknnfohllaaGreatDoor

/- The reference's reader walked: codes. -/
namespace Go.Proofs.YtcjaaknnfohllaaGreatDoor
open Go.RowKit

def cT (f : Nat) (l : List UInt8) : List UInt8 × List UInt8 := match l with
  | 44 :: r => cS f r
  | 41 :: r => ([], r)
  | r => ([], r)
theorem cT_comma (f : Nat) (r : List UInt8) : cT f (44 :: r) = cS f r := rfl
theorem cT_close (f : Nat) (r : List UInt8) : cT f (41 :: r) = ([], r) := rfl
theorem cT_stop (f : Nat) (l : List UInt8) (h : ∀ r, l ≠ 44 :: r) (h2 : ∀ r, l ≠ 41 :: r) : cT f l = ([], l) := by
  unfold cT
  split
  · rename_i r; exact absurd rfl (h r)
  · rename_i r; exact absurd rfl (h2 r)
  · rfl
theorem cS_step (f : Nat) (l : List UInt8) : cS (f + 1) l = (UInt8.ofNat (dS 3 0 l).1 :: (cT f (dS 3 0 l).2).1, (cT f (dS 3 0 l).2).2) := by
  by_cases h1 : ∃ r, (dS 3 0 l).2 = 44 :: r
  · obtain ⟨r, hr⟩ := h1
    rw [cS_comma f l r hr, hr, cT_comma]
  · by_cases h2 : ∃ r, (dS 3 0 l).2 = 41 :: r
    · obtain ⟨r, hr⟩ := h2
      rw [cS_close f l r hr, hr, cT_close]
    · rw [cS_stop f l (fun r e => h1 ⟨r, e⟩) (fun r e => h2 ⟨r, e⟩), cT_stop f _ (fun r e => h1 ⟨r, e⟩) (fun r e => h2 ⟨r, e⟩)]
theorem byte_mod (n : Nat) : ∃ y : UInt8, y = UInt8.ofNat n ∧ (n : Int) % 256 = (y.toNat : Int) := ⟨_, rfl, by rw [UInt8.toNat_ofNat']; rfl⟩
theorem dS_place (T : ByteArray) (p : Nat) (hp : p ≤ T.size) : ∃ q, p ≤ q ∧ q ≤ T.size ∧ T.data.toList.drop q = (dS 3 0 (T.data.toList.drop p)).2 := by
  have : ∀ (k n : Nat) (l : List UInt8), ∃ m, m ≤ l.length ∧ l.drop m = (dS k n l).2 := by
    intro k
    induction k with
    | zero => intro n l; exact ⟨0, Nat.zero_le _, rfl⟩
    | succ k ih =>
      intro n l
      cases l with
      | nil => exact ⟨0, Nat.zero_le _, by rw [dS_nil]; rfl⟩
      | cons c l =>
        cases hc : isDig c
        · exact ⟨0, Nat.zero_le _, by rw [dS_no _ _ _ _ hc]; rfl⟩
        · obtain ⟨m, h1, h2⟩ := ih (10 * n + dg c) l
          exact ⟨m + 1, by rw [List.length_cons]; omega, by rw [dS_yes _ _ _ _ hc, List.drop_succ_cons]; exact h2⟩
  obtain ⟨m, h1, h2⟩ := this 3 0 (T.data.toList.drop p)
  rw [List.length_drop, Array.length_toList] at h1
  have h1' : m ≤ T.size - p := h1
  exact ⟨p + m, by omega, by omega, by rw [← h2, List.drop_drop]⟩
theorem len_at (T : ByteArray) (p : Nat) (hp : p ≤ T.size) : T.size - (T.data.toList.drop p).length = p := by
  rw [List.length_drop, Array.length_toList]
  show T.size - (T.size - p) = p
  omega
/-- One number: where it ends, and what it is. -/
theorem digitsS_at (B : Nat) (T : ByteArray) (a : Nat) (ha : a ≤ T.size) (hT : T.size ≤ 1048576) (w : World) (hB : RdAt w B T a) :
    ∃ n q, a ≤ q ∧ q ≤ T.size ∧ n < 1000 ∧ (∀ f, cS (f + 1) (T.data.toList.drop a) = (UInt8.ofNat n :: (cT f (T.data.toList.drop q)).1, (cT f (T.data.toList.drop q)).2)) ∧
      Calls Tryz.prog 155 #[.pointer (some ⟨B, 0, none⟩)] w fun e w' => e = .returned (.int .i64 (n : Int)) ∧ RdAt w' B T q ∧ Within B (B + 1) w w' := by
  obtain ⟨q, h1, h2, h3⟩ := dS_place T a ha
  refine ⟨(dS 3 0 (T.data.toList.drop a)).1, q, h1, h2, dS_bound 3 0 1 _ (by decide), fun f => by rw [h3]; exact cS_step f _, ?_⟩
  have := digitsS_any B T a ha hT w hB
  rw [← h3, len_at T q h2] at this
  exact this
theorem OwnR.one_ {α : Type} {enc : α → Value} (w : World) (base : Nat) (t : TypeId) (y : α) (hb : base ≤ w.heap.size) : OwnR enc (w.alloc (.cells #[enc y] t)) base t (.slice (some ⟨w.heap.size, 0, none⟩) 1 1) [y] :=
  ⟨⟨_, _, rfl⟩, by simpa using World.ownsRow_lit (base := base) (e := t) (size := 1) w #[enc y] 1 hb (by unfold maxLen; omega) rfl⟩

set_option maxHeartbeats 8000000 in
set_option maxRecDepth 100000 in
theorem codesS_any (B : Nat) (T : ByteArray) (a f : Nat) (ha : a ≤ T.size) (hf : T.size - a < f) (hT : T.size ≤ 1048576) (w : World) (hB : RdAt w B T a) :
    Calls Tryz.prog 97 #[.pointer (some ⟨B, 0, none⟩)] w fun e w' => e = .returned (.string ⟨(cS f (T.data.toList.drop a)).1.toArray⟩) ∧ RdAt w' B T (T.size - (cS f (T.data.toList.drop a)).2.length) ∧ Within B (B + 1) w w' := by
  have hBl := hB.lt
  obtain ⟨f, rfl⟩ : ∃ g, f = g + 1 := ⟨f - 1, by omega⟩
  obtain ⟨n, p0, h1, hp0, hn3, hq, hd⟩ := digitsS_at B T a ha hT w hB
  have HD := Lib.hid hd
  have HQ := Lib.hid (hq f)
  have hp0f : T.size - p0 ≤ f := by omega
  obtain ⟨y, hy, hmod⟩ := byte_mod n
  rw [← hy] at HQ
  generalize cS (f + 1) (T.data.toList.drop a) = Q at *
  clear hB hq hd hy
  go_enter Tryz.func97, Tryz.ntmps97
  go_wp2_with fail
  refine HD.out.mono ?_; rintro e1 w1 ⟨rfl, hr1, hw1⟩
  have own1 : OwnR encB (w1.alloc (.cells #[encB y] 5)) w.heap.size 5 (.slice (some ⟨w1.heap.size, 0, none⟩) 1 1) [y] := OwnR.one_ _ _ _ _ hw1.size
  have HR1 := Lib.hid (show RdAt (w1.alloc (.cells #[encB y] 5)) B T p0 from hr1.alloc _)
  have HW1 := Lib.hid (show Within B (B + 1) w (w1.alloc (.cells #[encB y] 5)) from hw1.trans (Within.of_below ((Below.refl _ _).alloc (Nat.le_refl _) _)))
  have HO1 := Lib.hid own1
  clear own1 hr1 hw1
  go_upto_block 0 with fail
  rw [hmod]
  go_cut [3, 4] (fun _ v wr => ∃ (p : Nat) (b : List UInt8), p ≤ T.size ∧ RdAt wr B T p ∧ OwnR encB wr w.heap.size 5 v b ∧ b.length ≤ p + 1 ∧ (∀ r, T.data.toList.drop p ≠ 44 :: r) ∧ b ++ (cT f (T.data.toList.drop p)).1 = Q.1 ∧ (cT f (T.data.toList.drop p)).2 = Q.2 ∧ Within B (B + 1) w wr)
  case first =>
    go_wp2_with fail
    go_loopw [3, 4] (fun _ v wr => ∃ (p g : Nat) (b : List UInt8), p ≤ T.size ∧ T.size - p ≤ g ∧ RdAt wr B T p ∧ OwnR encB wr w.heap.size 5 v b ∧ b.length ≤ p + 1 ∧ b ++ (cT g (T.data.toList.drop p)).1 = Q.1 ∧ (cT g (T.data.toList.drop p)).2 = Q.2 ∧ Within B (B + 1) w wr) (fun _ _ wr => T.size - standsAt wr B)
    case atStart => exact ⟨p0, f, [y], hp0, hp0f, HR1.out, HO1.out, by simp, by rw [HQ.out]; rfl, by rw [HQ.out], HW1.out⟩
    case round =>
      obtain ⟨p, g, b, hp, hg, hR, hown, hbl, h1, h2, hw⟩ := hrel
      have H1 := Lib.hid h1; have H2 := Lib.hid h2; have HW := Lib.hid hw; have HR := Lib.hid hR
      have hws := hw.size
      have HST := Lib.hid (standsAt_rd hR)
      have HM := Lib.hid (more_any B T ⟨#[44]⟩ p hp hT (by decide) wr hR)
      clear h1 h2 hw hR
      cases hm : (⟨#[44]⟩ : ByteArray).data.toList.isPrefixOf (T.data.toList.drop p)
      · rw [hm, if_neg (by decide)] at HM
        have HNC := Lib.hid (show ∀ r, T.data.toList.drop p ≠ 44 :: r from fun r e => by rw [(one_pre 44 _).2 ⟨r, e⟩] at hm; cases hm)
        clear hm
        go_wp2_with fail
        refine HM.out.mono ?_; rintro e5 w5 ⟨rfl, hr5, hw5⟩
        have own5 := hown.within hw5 (by omega)
        have hW5 := HW.out.trans hw5
        have hcf : cT f (T.data.toList.drop p) = cT g (T.data.toList.drop p) := by
          by_cases h41 : ∃ r, T.data.toList.drop p = 41 :: r
          · obtain ⟨r, hr⟩ := h41; rw [hr]; rfl
          · rw [cT_stop f _ HNC.out (fun r e => h41 ⟨r, e⟩), cT_stop g _ HNC.out (fun r e => h41 ⟨r, e⟩)]
        have HCF := Lib.hid hcf
        clear hcf hw5
        go_wp2_with fail
        go_meet
        case rel => exact ⟨p, b, hp, hr5, own5, hbl, HNC.out, by rw [HCF.out]; exact H1.out, by rw [HCF.out]; exact H2.out, hW5⟩
      · rw [hm, if_pos rfl] at HM
        obtain ⟨r, hr⟩ := (one_pre 44 _).1 hm
        have hp2 : p < T.size := by
          rcases Nat.lt_or_ge p T.size with h' | h'
          · exact h'
          · rw [List.drop_of_length_le (by rw [Array.length_toList]; exact h')] at hr; cases hr
        have hr2 : T.data.toList.drop p = 44 :: T.data.toList.drop (p + 1) := by
          have := drop_at T p hp2
          rw [hr] at this ⊢
          injection this with e1 e2
          rw [e2]
        obtain ⟨g, rfl⟩ : ∃ h, g = h + 1 := ⟨g - 1, by omega⟩
        have HDR := Lib.hid hr2
        clear hm hr hr2
        go_wp2_with fail
        refine HM.out.mono ?_; rintro e5 w5 ⟨rfl, hr5, hw5⟩
        have hr5' : RdAt w5 B T (p + 1) := hr5
        have own5 := hown.within hw5 (by omega)
        have hW5 := HW.out.trans hw5
        obtain ⟨m, q, hq1, hq2, hm3, hqc, hdd⟩ := digitsS_at B T (p + 1) hp2 hT w5 hr5'
        obtain ⟨z, hz, hmod2⟩ := byte_mod m
        have HDD := Lib.hid hdd
        have HQC := Lib.hid (hqc g)
        rw [← hz] at HQC
        clear hqc hdd hr5 hr5' hw5 hz HM
        go_wp2_with fail
        refine HDD.out.mono ?_; rintro e6 w6 ⟨rfl, hr6, hw6⟩
        have own6 := own5.within hw6 (by omega)
        have hW6 := hW5.trans hw6
        have hs6 := hW6.size
        go_wp2_with (first
          | fail
          | (at_builtin; refine wpList_app1 (enc := encB) rfl (.tmp 14) (.tmp 17) 102 5 rfl Tryz.underlying102 rfl (by omega) (fun _ => rfl) infoByte w6 w.heap.size _ b z rfl own6 rfl (by omega) hs6 ?_; intro v7 w7 own7 hb7))
        have hr7 : RdAt w7 B T q := hr6.below hb7 hBl
        go_roundw
        case rel => exact ⟨q, g, b ++ [z], hq2, by omega, hr7, own7, by rw [List.length_append]; simp only [List.length_cons, List.length_nil]; omega, by rw [← H1.out, HDR.out, cT_comma, HQC.out, List.append_assoc]; rfl, by rw [← H2.out, HDR.out, cT_comma, HQC.out], hW6.low hb7⟩
        case measure => rw [standsAt_rd hr7, HST.out]; omega
  case rest =>
    obtain ⟨p, b, hp, hR, hown, hbl, hnc, h1, h2, hw⟩ := hcut
    have HM := Lib.hid (more_any B T ⟨#[41]⟩ p hp hT (by decide) wc hR)
    have HW := Lib.hid hw
    have HNC := Lib.hid hnc
    have H1 := Lib.hid h1; have H2 := Lib.hid h2
    clear h1 h2 hw hR hnc
    cases hm : (⟨#[41]⟩ : ByteArray).data.toList.isPrefixOf (T.data.toList.drop p)
    · rw [hm, if_neg (by decide)] at HM
      have hst := cT_stop f (T.data.toList.drop p) HNC.out (fun r e => by rw [(one_pre 41 _).2 ⟨r, e⟩] at hm; cases hm)
      have H1' := H1.out; have H2' := H2.out
      rw [hst] at H1' H2'
      have HF1 := Lib.hid (show b = Q.1 by rw [← H1']; exact (List.append_nil b).symm)
      have HF2 := Lib.hid (drop_len T p Q.2 hp H2')
      clear hm hst H1' H2'
      go_wp2_with fail
      refine HM.out.mono ?_; rintro e5 w5 ⟨rfl, hr5, hw5⟩
      have hcv := convert_own (hown.within hw5 (by omega))
      have hW5 := HW.out.trans hw5
      go_wp2_with fail
      go_ret
      exact ⟨by rw [← HF1.out]; rfl, by rw [← HF2.out]; exact hr5, hW5⟩
    · rw [hm, if_pos rfl] at HM
      obtain ⟨r, hr⟩ := (one_pre 41 _).1 hm
      have hp2 : p < T.size := by
        rcases Nat.lt_or_ge p T.size with h' | h'
        · exact h'
        · rw [List.drop_of_length_le (by rw [Array.length_toList]; exact h')] at hr; cases hr
      have hr2 : r = T.data.toList.drop (p + 1) := by
        have := drop_at T p hp2
        rw [hr] at this
        injection this
      have H1' := H1.out; have H2' := H2.out
      rw [hr, cT_close] at H1' H2'
      have HF1 := Lib.hid (show b = Q.1 by rw [← H1']; exact (List.append_nil b).symm)
      have HF2 := Lib.hid (drop_len T (p + 1) Q.2 hp2 (by rw [← H2', ← hr2]))
      clear hm hr hr2 H1' H2'
      go_wp2_with fail
      refine HM.out.mono ?_; rintro e5 w5 ⟨rfl, hr5, hw5⟩
      have hcv := convert_own (hown.within hw5 (by omega))
      have hW5 := HW.out.trans hw5
      go_wp2_with fail
      go_ret
      exact ⟨by rw [← HF1.out]; rfl, by rw [← HF2.out]; exact hr5, hW5⟩
end Go.Proofs.YtcjaaknnfohllaaGreatDoor

/- strings.Builder: WriteByte, WriteString, String, at builders of the call's own. -/
namespace Go.Proofs.YtcjaaknnfohllaaGreatDoor
open Go.RowKit

theorem bld_below {T e : TypeId} {B b : Nat} {bs : List Value} {w w' : World} (h : Lib.IsBuilder T e B b bs w) (hb : Below w.heap.size w w') : Lib.IsBuilder T e B b bs w' := by
  have one : ∀ p, Lib.BuilderAt T e B b p bs w → Lib.BuilderAt T e B b p bs w' := by
    intro p hp
    have hlt := hp.lt
    obtain ⟨h1, v, h2, h3, h4⟩ := hp
    exact ⟨h1, v, (hb.block b hlt).trans h2, own_below h3 hb, h4⟩
  rcases h with h | h
  · exact .inl (one _ h)
  · exact .inr (one _ h)

/-- A builder of the call's own in block b that holds the bytes l; from B on. -/
abbrev Bld (w : World) (b : Nat) (l : List UInt8) : Prop := Lib.IsBuilder 109 5 b b (Lib.byteCells l) w
theorem bld_new (w : World) : Bld (w.alloc (.cells #[.pointer none, .slice none 0 0] 109)) w.heap.size [] := Lib.fresh_isBuilder _ _ w

theorem bldString (b : Nat) (bs : List UInt8) (s : ByteArray) (w : World) (h : Bld w b bs) (hlen : bs.length + s.size ≤ 140737488355328) (hBw : b ≤ w.heap.size) :
    Calls Tryz.prog 92 #[.pointer (some ⟨b, 0, none⟩), .string s] w fun e w' => e = .returned (.tuple #[.int .i64 s.size, .nilIface]) ∧ Bld w' b (bs ++ s.data.toList) ∧ Below b w w' := by
  have H : Calls Tryz.prog 92 #[.pointer (some ⟨b, 0, none⟩), .string s] w fun e w' => e = .returned (.tuple #[.int .i64 s.size, .nilIface]) ∧ (Lib.BuilderAt 109 5 b b (.pointer (some ⟨b, 0, none⟩)) (Lib.byteCells bs ++ Lib.strCells s) w' ∧ Below b w w') :=
    Any.Builder_WriteString { Tryz.lays156 with } Tryz.Builder_Extra_156 b b (Lib.byteCells bs) s w h (by rw [Lib.byteCells_length]; exact hlen) hBw
  refine H.mono ?_
  rintro e w' ⟨h1, h2, h3⟩
  refine ⟨h1, .inr ?_, h3⟩
  rw [Lib.byteCells_append, ← Lib.strCells_eq]
  exact h2

def renB : Go.Shelf.Ren := ⟨fun n => match n with
  | 167 => 166
  | n => Tryz.lays156_ren.f n, Tryz.lays156_ren.t, Tryz.lays156_ren.g⟩
theorem laysB : Lays.n167 Tryz.prog renB := {
  mixed := Tryz.lays156.mixed
  f167 := Tryz.func166.trans (congrArg some (by kernel_rfl))
  f240 := Tryz.func153.trans (congrArg some (by kernel_rfl))
  f276 := Tryz.func204.trans (congrArg some (by kernel_rfl))
  t0 := Tryz.lays156.t0
  a0 := Tryz.lays156.a0
  z0 := Tryz.lays156.z0
  v0 := Tryz.lays156.v0
  t4 := Tryz.lays156.t4
  a4 := Tryz.lays156.a4
  z4 := Tryz.lays156.z4
  v4 := Tryz.lays156.v4
  t5 := Tryz.underlying5
  a5 := Tryz.isAgg5
  z5 := Tryz.sizeOf5
  v5 := Tryz.zeroValue5
  t9 := Tryz.lays156.t9
  a9 := Tryz.lays156.a9
  z9 := Tryz.lays156.z9
  v9 := Tryz.lays156.v9
  t20 := Tryz.lays156.t20
  a20 := Tryz.lays156.a20
  z20 := Tryz.lays156.z20
  v20 := Tryz.lays156.v20
  t37 := Tryz.lays156.t37
  a37 := Tryz.lays156.a37
  z37 := Tryz.lays156.z37
  v37 := Tryz.lays156.v37
  t70 := Tryz.lays156.t70
  a70 := Tryz.lays156.a70
  z70 := Tryz.lays156.z70
  v70 := Tryz.lays156.v70
  t72 := Tryz.lays156.t72
  a72 := Tryz.lays156.a72
  z72 := Tryz.lays156.z72
  v72 := Tryz.lays156.v72
  t75 := Tryz.lays156.t75
  a75 := Tryz.lays156.a75
  z75 := Tryz.lays156.z75
  v75 := Tryz.lays156.v75
  t164 := Tryz.lays156.t164
  a164 := Tryz.lays156.a164
  z164 := Tryz.lays156.z164
  v164 := Tryz.lays156.v164 }
set_option maxRecDepth 100000 in
theorem bldByte (b : Nat) (bs : List UInt8) (c : UInt8) (w : World) (h : Bld w b bs) (hlen : bs.length + 1 ≤ 140737488355328) (hBw : b ≤ w.heap.size) :
    Calls Tryz.prog 166 #[.pointer (some ⟨b, 0, none⟩), .int .u8 (c.toNat : Int)] w fun e w' => e = .returned .nilIface ∧ Bld w' b (bs ++ [c]) ∧ Below b w w' := by
  have H : Calls Tryz.prog 166 #[.pointer (some ⟨b, 0, none⟩), .int .u8 (c.toNat : Int)] w fun e w' => e = .returned .nilIface ∧ (Lib.BuilderAt 109 5 b b (.pointer (some ⟨b, 0, none⟩)) (Lib.byteCells bs ++ [.int .u8 (c.toNat : Int)]) w' ∧ Below b w w') :=
    Any.Builder_WriteByte laysB { Tryz.Builder_Extra_156 with } b b (Lib.byteCells bs) (c.toNat : Int) w h (by rw [Lib.byteCells_length]; exact hlen) hBw
  refine H.mono ?_
  rintro e w' ⟨h1, h2, h3⟩
  refine ⟨h1, .inr ?_, h3⟩
  rw [Lib.byteCells_append]
  exact h2
set_option maxRecDepth 100000 in
theorem bldText (b : Nat) (bs : List UInt8) (w : World) (h : Bld w b bs) (hBw : b ≤ w.heap.size) :
    Calls Tryz.prog 93 #[.pointer (some ⟨b, 0, none⟩)] w fun e w' => e = .returned (.string ⟨bs.toArray⟩) ∧ Below b w w' := Tryz.Builder_String_any b b bs w h hBw
end Go.Proofs.YtcjaaknnfohllaaGreatDoor
