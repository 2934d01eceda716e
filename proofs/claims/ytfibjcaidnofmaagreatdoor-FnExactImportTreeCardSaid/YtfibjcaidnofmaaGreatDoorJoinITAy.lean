/- The reference's reader walked: text. -/
import Derived.Test.YtfibjcaidnofmaaGreatDoorJoinITAv
import Derived.Test.YtfibjcaidnofmaaGreatDoorJoinITAu
import Derived.Test.YtfibjcaidnofmaaGreatDoorJoinITAo
namespace Go.Proofs.YtfibjcaidnofmaaGreatDoor
open Go.RowKit

theorem qS_sum : ∀ (n : Nat) (l : List UInt8), l.length ≤ n → (qS l).1.length + (qS l).2.length ≤ l.length
  | n, [], _ => by unfold qS; exact Nat.le_refl _
  | 0, _ :: _, h => absurd h (by simp)
  | n + 1, c :: l, h => by
    rw [List.length_cons] at h
    by_cases hc : c = 34
    · subst hc
      cases l with
      | nil => rw [qS_end [] (fun r e => by cases e)]; exact Nat.zero_le _
      | cons d r =>
        by_cases hd : d = 34
        · subst hd
          rw [List.length_cons] at h
          have := qS_sum n r (by omega)
          rw [qS_two]
          simp only [List.length_cons]; omega
        · rw [qS_end _ (fun z e => hd (by injection e))]
          simp only [List.length_cons, List.length_nil]; omega
    · have := qS_sum n l (by omega)
      rw [qS_plain c l hc]
      simp only [List.length_cons]; omega
theorem cS_sum : ∀ (f : Nat) (l : List UInt8), (cS f l).1.length + (cS f l).2.length ≤ l.length + 1
  | 0, l => by show 0 + l.length ≤ _; omega
  | f + 1, l => by
    have hr := dS_rest 3 0 l
    rw [cS_step]
    by_cases h1 : ∃ r, (dS 3 0 l).2 = 44 :: r
    · obtain ⟨r, e⟩ := h1
      rw [e, List.length_cons] at hr
      have := cS_sum f r
      rw [e, cT_comma]
      simp only [List.length_cons]; omega
    · by_cases h2 : ∃ r, (dS 3 0 l).2 = 41 :: r
      · obtain ⟨r, e⟩ := h2
        rw [e, List.length_cons] at hr
        rw [e, cT_close]
        simp only [List.length_cons, List.length_nil]; omega
      · rw [cT_stop f _ (fun r e => h1 ⟨r, e⟩) (fun r e => h2 ⟨r, e⟩)]
        simp only [List.length_cons, List.length_nil]; omega
/-- What a reading leaves is an end of the text. -/
theorem qS_place (T : ByteArray) (p : Nat) (hp : p ≤ T.size) : ∃ q, p ≤ q ∧ q ≤ T.size ∧ T.data.toList.drop q = (qS (T.data.toList.drop p)).2 := by
  have : ∀ (n : Nat) (l : List UInt8), l.length ≤ n → ∃ m, m ≤ l.length ∧ l.drop m = (qS l).2 := by
    intro n
    induction n with
    | zero => intro l h; obtain rfl := List.eq_nil_of_length_eq_zero (Nat.le_zero.1 h); exact ⟨0, Nat.zero_le _, rfl⟩
    | succ n ih =>
      intro l h
      cases l with
      | nil => exact ⟨0, Nat.zero_le _, rfl⟩
      | cons c l =>
        rw [List.length_cons] at h
        by_cases hc : c = 34
        · subst hc
          cases l with
          | nil => exact ⟨1, by simp, by rw [qS_end [] (fun r e => by cases e)]; rfl⟩
          | cons d r =>
            by_cases hd : d = 34
            · subst hd
              rw [List.length_cons] at h
              obtain ⟨m, h1, h2⟩ := ih r (by omega)
              exact ⟨m + 2, by simp only [List.length_cons]; omega, by rw [qS_two, List.drop_succ_cons, List.drop_succ_cons]; exact h2⟩
            · exact ⟨1, by simp, by rw [qS_end _ (fun z e => hd (by injection e))]; rfl⟩
        · obtain ⟨m, h1, h2⟩ := ih l (by omega)
          exact ⟨m + 1, by rw [List.length_cons]; omega, by rw [qS_plain c l hc, List.drop_succ_cons]; exact h2⟩
  obtain ⟨m, h1, h2⟩ := this _ (T.data.toList.drop p) (Nat.le_refl _)
  rw [List.length_drop, Array.length_toList] at h1
  have h1' : m ≤ T.size - p := h1
  exact ⟨p + m, by omega, by omega, by rw [← h2, List.drop_drop]⟩
theorem cS_place (T : ByteArray) (f p : Nat) (hp : p ≤ T.size) : ∃ q, p ≤ q ∧ q ≤ T.size ∧ T.data.toList.drop q = (cS f (T.data.toList.drop p)).2 := by
  induction f generalizing p with
  | zero => exact ⟨p, Nat.le_refl _, hp, rfl⟩
  | succ f ih =>
    obtain ⟨q, h1, h2, h3⟩ := dS_place T p hp
    rw [cS_step, ← h3]
    have next : ∀ c r, T.data.toList.drop q = c :: r → q < T.size ∧ r = T.data.toList.drop (q + 1) := by
      intro c r e
      have hlt : q < T.size := by
        rcases Nat.lt_or_ge q T.size with h' | h'
        · exact h'
        · rw [List.drop_of_length_le (by rw [Array.length_toList]; exact h')] at e; cases e
      refine ⟨hlt, ?_⟩
      have := drop_at T q hlt
      rw [e] at this
      injection this
    by_cases k1 : ∃ r, T.data.toList.drop q = 44 :: r
    · obtain ⟨r, e⟩ := k1
      obtain ⟨hlt, hr⟩ := next _ _ e
      obtain ⟨q2, g1, g2, g3⟩ := ih (q + 1) hlt
      exact ⟨q2, by omega, g2, by rw [e, cT_comma, hr]; exact g3⟩
    · by_cases k2 : ∃ r, T.data.toList.drop q = 41 :: r
      · obtain ⟨r, e⟩ := k2
        obtain ⟨hlt, hr⟩ := next _ _ e
        exact ⟨q + 1, by omega, hlt, by rw [e, cT_close, hr]⟩
      · exact ⟨q, h1, h2, by rw [cT_stop f _ (fun r e => k1 ⟨r, e⟩) (fun r e => k2 ⟨r, e⟩)]⟩
theorem quotedS_at (B : Nat) (T : ByteArray) (a : Nat) (ha : a ≤ T.size) (hT : T.size ≤ 1048576) (w : World) (hB : RdAt w B T a) :
    ∃ x q, a ≤ q ∧ q ≤ T.size ∧ x.length ≤ q - a ∧ qS (T.data.toList.drop a) = (x, T.data.toList.drop q) ∧
      Calls Tryz.prog 159 #[.pointer (some ⟨B, 0, none⟩)] w fun e w' => e = .returned (.string ⟨x.toArray⟩) ∧ RdAt w' B T q ∧ Within B (B + 1) w w' := by
  obtain ⟨q, h1, h2, h3⟩ := qS_place T a ha
  have hs := qS_sum _ (T.data.toList.drop a) (Nat.le_refl _)
  have hc := quotedS_any B T a ha hT w hB
  rw [← h3, len_at T q h2] at hc
  rw [← h3, List.length_drop, List.length_drop, Array.length_toList] at hs
  have hs' : (qS (T.data.toList.drop a)).1.length + (T.size - q) ≤ T.size - a := hs
  exact ⟨_, q, h1, h2, by omega, by rw [h3], hc⟩
theorem codesS_at (B : Nat) (T : ByteArray) (a f : Nat) (ha : a ≤ T.size) (hf : T.size - a < f) (hT : T.size ≤ 1048576) (w : World) (hB : RdAt w B T a) :
    ∃ x q, a ≤ q ∧ q ≤ T.size ∧ x.length ≤ q - a + 1 ∧ cS f (T.data.toList.drop a) = (x, T.data.toList.drop q) ∧
      Calls Tryz.prog 160 #[.pointer (some ⟨B, 0, none⟩)] w fun e w' => e = .returned (.string ⟨x.toArray⟩) ∧ RdAt w' B T q ∧ Within B (B + 1) w w' := by
  obtain ⟨q, h1, h2, h3⟩ := cS_place T f a ha
  have hs := cS_sum f (T.data.toList.drop a)
  have hc := codesS_any B T a f ha hf hT w hB
  rw [← h3, len_at T q h2] at hc
  rw [← h3, List.length_drop, List.length_drop, Array.length_toList] at hs
  have hs' : (cS f (T.data.toList.drop a)).1.length + (T.size - q) ≤ T.size - a + 1 := hs
  exact ⟨_, q, h1, h2, by omega, by rw [h3], hc⟩
theorem pre_place (T : ByteArray) (p : Nat) (pre : List UInt8) (h : pre.isPrefixOf (T.data.toList.drop p) = true) (hp : p ≤ T.size) : p + pre.length ≤ T.size := by
  have := (List.isPrefixOf_iff_prefix.1 h).length_le
  rw [List.length_drop, Array.length_toList] at this
  have h' : pre.length ≤ T.size - p := this
  omega

set_option maxHeartbeats 8000000 in
set_option maxRecDepth 100000 in
theorem textS_any (B : Nat) (T : ByteArray) (a f : Nat) (ha : a ≤ T.size) (hf : T.size - a < f) (hT : T.size ≤ 1048576) (w : World) (hB : RdAt w B T a) :
    Calls Tryz.prog 111 #[.pointer (some ⟨B, 0, none⟩)] w fun e w' => e = .returned (.string ⟨(tS f (T.data.toList.drop a)).1.toArray⟩) ∧ RdAt w' B T (T.size - (tS f (T.data.toList.drop a)).2.length) ∧ Within B (B + 1) w w' ∧ (tS f (T.data.toList.drop a)).1.length ≤ 2 * T.size := by
  have hBl := hB.lt
  generalize hQ : tS f (T.data.toList.drop a) = Q at *
  have HQ := Lib.hid hQ; have HB := Lib.hid hB
  clear hQ hB
  go_enter Tryz.func111, Tryz.ntmps111
  go_wp2_with fail
  go_loopw [3] (fun v wr => ∃ (p g : Nat) (o : List UInt8), p ≤ T.size ∧ T.size - p < g ∧ RdAt wr B T p ∧ v = .string ⟨o.toArray⟩ ∧ o.length ≤ 2 * p ∧ o ++ (tS g (T.data.toList.drop p)).1 = Q.1 ∧ (tS g (T.data.toList.drop p)).2 = Q.2 ∧ Within B (B + 1) w wr) (fun _ wr => T.size - standsAt wr B)
  case atStart => exact ⟨a, f, [], ha, hf, HB.out, rfl, Nat.zero_le _, by rw [HQ.out]; rfl, by rw [HQ.out], within_refl _ _ _⟩
  case round =>
    obtain ⟨p, g, o, hp, hg, hR, rfl, hol, h1, h2, hw⟩ := hrel
    obtain ⟨g, rfl⟩ : ∃ h, g = h + 1 := ⟨g - 1, by omega⟩
    have H1 := Lib.hid h1; have H2 := Lib.hid h2; have HW := Lib.hid hw; have HR := Lib.hid hR
    have hws := hw.size
    have HST := Lib.hid (standsAt_rd hR)
    have HM := Lib.hid (more_any B T ⟨#[34]⟩ p hp hT (by decide) wr hR)
    clear h1 h2 hw hR
    cases hm : (⟨#[34]⟩ : ByteArray).data.toList.isPrefixOf (T.data.toList.drop p)
    · rw [hm, if_neg (by decide)] at HM
      go_wp2_with fail
      refine HM.out.mono ?_; rintro e1 w1 ⟨rfl, hr1, hw1⟩
      have HW1 := Lib.hid (HW.out.trans hw1)
      have HR1 := Lib.hid hr1
      have HM2 := Lib.hid (more_any B T ⟨#[36, 67, 40]⟩ p hp hT (by decide) w1 hr1)
      have HP34 := Lib.hid hm
      clear hr1 hw1 HM hm
      cases hm2 : (⟨#[36, 67, 40]⟩ : ByteArray).data.toList.isPrefixOf (T.data.toList.drop p)
      · rw [hm2, if_neg (by decide)] at HM2
        have HT := Lib.hid (tS_n g (T.data.toList.drop p) HP34.out hm2)
        clear hm2
        go_wp2_with fail
        refine HM2.out.mono ?_; rintro e2 w2 ⟨rfl, hr2, hw2⟩
        have HW2 := Lib.hid (HW1.out.trans hw2)
        have HR2 := Lib.hid hr2
        have f2 := hr2.cell
        clear hw2 hr2
        go_wp2_with fail
        go_loopw [] (fun wi => ∃ q : Nat, p ≤ q ∧ q ≤ T.size ∧ RdAt wi B T q ∧ (∀ c ∈ (T.data.toList.drop p).take (q - p), numCh c = true) ∧ Within B (B + 1) w wi) (fun wi => T.size - standsAt wi B)
        case atStart => exact ⟨p, Nat.le_refl _, hp, HR2.out, (fun c h => by rw [Nat.sub_self] at h; cases h), HW2.out⟩
        case round =>
          clear f2
          obtain ⟨q, hq1, hq2, hRi, hall, hwi⟩ := hrel
          have HWi := Lib.hid hwi; have HRi := Lib.hid hRi; have HALL := Lib.hid hall
          have HSTi := Lib.hid (standsAt_rd hRi)
          have fi := hRi.cell
          clear hwi hRi hall
          have q0 : (0 : Int) ≤ (q : Int) := by omega
          have p0 : (0 : Int) ≤ (p : Int) := by omega
          have pq : (p : Int) ≤ (q : Int) := by omega
          have qs : (q : Int) ≤ (T.size : Int) := by omega
          have hlen : (T.data.toList.drop p).length = T.size - p := by rw [List.length_drop, Array.length_toList]; rfl
          by_cases hlt : q < T.size
          · have i1 : (q : Int) < (T.size : Int) := by omega
            have hat : (T.data.toList.drop p)[q - p]? = some T[q] := by
              rw [List.getElem?_drop, show p + (q - p) = q by omega]; exact get_list T q hlt
            have HNX := Lib.hid (fun h : numCh T[q] = true => show ∀ c ∈ (T.data.toList.drop p).take (q + 1 - p), numCh c = true by
              rw [show q + 1 - p = (q - p) + 1 by omega, take_snoc' _ _ _ hat]
              intro c hc
              rcases List.mem_append.1 hc with hc | hc
              · exact HALL.out c hc
              · rw [List.mem_singleton.1 hc]; exact h)
            have HEX := Lib.hid (fun h : numCh T[q] = false => span_exit numCh (T.data.toList.drop p) (q - p) (by rw [hlen]; omega) HALL.out (fun c hc => by rw [hat] at hc; injection hc with hc; rw [← hc]; exact h))
            clear hat hlen
            have hcase : (numCh T[q] = true ∧ 48 ≤ T[q].toNat ∧ T[q].toNat ≤ 57) ∨ (numCh T[q] = true ∧ T[q].toNat = 45) ∨ (numCh T[q] = true ∧ T[q].toNat = 46) ∨ (numCh T[q] = false ∧ T[q].toNat < 48 ∧ T[q].toNat ≠ 45 ∧ T[q].toNat ≠ 46) ∨ (numCh T[q] = false ∧ 57 < T[q].toNat) := by
              have e45 : (T[q] == 45) = decide (T[q].toNat = 45) := by rw [Bool.eq_iff_iff, beq_iff_eq, decide_eq_true_iff]; exact ⟨fun e => by rw [e]; rfl, fun e => u8_eq e⟩
              have e46 : (T[q] == 46) = decide (T[q].toNat = 46) := by rw [Bool.eq_iff_iff, beq_iff_eq, decide_eq_true_iff]; exact ⟨fun e => by rw [e]; rfl, fun e => u8_eq e⟩
              unfold numCh isDig
              rw [e45, e46]
              by_cases k1 : T[q].toNat = 45
              · right; left; exact ⟨by simp [k1], k1⟩
              · by_cases k2 : T[q].toNat = 46
                · right; right; left; exact ⟨by simp [k2], k2⟩
                · by_cases k3 : 48 ≤ T[q].toNat
                  · by_cases k4 : T[q].toNat ≤ 57
                    · left; exact ⟨by simp [k3, k4], k3, k4⟩
                    · right; right; right; right; exact ⟨by simp [k1, k2]; omega, by omega⟩
                  · right; right; right; left; exact ⟨by simp [k1, k2]; omega, by omega, k1, k2⟩
            generalize numCh T[q] = NC at *
            rcases hcase with ⟨rfl, k1, k2⟩ | ⟨rfl, k1⟩ | ⟨rfl, k1⟩ | ⟨rfl, k1, k2, k3⟩ | ⟨rfl, k1⟩
            · have c1 : (48 : Int) ≤ (T[q].toNat : Int) := by omega
              have c2 : (T[q].toNat : Int) ≤ 57 := by omega
              have kd : decide ((48 : Int) ≤ (T[q].toNat : Int)) = true := decide_eq_true c1
              have kd' : decide (48 ≤ T[q].toNat) = true := decide_eq_true k1
              have ke : decide ((T[q].toNat : Int) ≤ 57) = true := decide_eq_true c2
              have ke' : decide (T[q].toNat ≤ 57) = true := decide_eq_true k2
              go_wp2_with fail
              go_quiet (fail)
              have R1 : RdAt (wr.drewN nq) B T q := HRi.out
              have W1 : Within B (B + 1) w (wr.drewN nq) := HWi.out.trans (Within.of_below (below_drewN' wr nq))
              generalize wr.drewN nq = wb at *
              have fb := R1.cell
              have zb := R1.frozen
              have HR3 := Lib.hid (show RdAt (wb.setCell ⟨B, 1, none⟩ (.int .i64 ((q : Int) + 1))) B T (q + 1) from R1.set_ 1 (.int .i64 ((q : Int) + 1)))
              have HW3 := Lib.hid (W1.trans (within_set wb B 1 (.int .i64 ((q : Int) + 1))))
              clear R1 W1 fi
              go_wp2_with fail
              go_roundw
              case rel => exact ⟨q + 1, by omega, by omega, HR3.out, HNX.out (by first | rfl | trivial), HW3.out⟩
              case measure => rw [standsAt_rd HR3.out, HSTi.out]; omega
            · have c1 : ¬ (48 : Int) ≤ (T[q].toNat : Int) := by omega
              have kd : decide ((48 : Int) ≤ (T[q].toNat : Int)) = false := decide_eq_false c1
              have kd' : decide (48 ≤ T[q].toNat) = false := decide_eq_false (by omega)
              have q45 : ((T[q].toNat : Int) == 45) = true := by rw [beq_iff_eq]; omega
              have HK := Lib.hid k1; clear k1
              go_wp2_with fail
              go_quiet (fail)
              have R1 : RdAt (wr.drewN nq) B T q := HRi.out
              have W1 : Within B (B + 1) w (wr.drewN nq) := HWi.out.trans (Within.of_below (below_drewN' wr nq))
              generalize wr.drewN nq = wb at *
              have fb := R1.cell
              have zb := R1.frozen
              have HR3 := Lib.hid (show RdAt (wb.setCell ⟨B, 1, none⟩ (.int .i64 ((q : Int) + 1))) B T (q + 1) from R1.set_ 1 (.int .i64 ((q : Int) + 1)))
              have HW3 := Lib.hid (W1.trans (within_set wb B 1 (.int .i64 ((q : Int) + 1))))
              clear R1 W1 fi
              go_wp2_with fail
              go_roundw
              case rel => exact ⟨q + 1, by omega, by omega, HR3.out, HNX.out (by first | rfl | trivial), HW3.out⟩
              case measure => rw [standsAt_rd HR3.out, HSTi.out]; omega
            · have c1 : ¬ (48 : Int) ≤ (T[q].toNat : Int) := by omega
              have kd : decide ((48 : Int) ≤ (T[q].toNat : Int)) = false := decide_eq_false c1
              have kd' : decide (48 ≤ T[q].toNat) = false := decide_eq_false (by omega)
              have q45 : ((T[q].toNat : Int) == 45) = false := by rw [beq_eq_false_iff_ne]; omega
              have q46 : ((T[q].toNat : Int) == 46) = true := by rw [beq_iff_eq]; omega
              have HK := Lib.hid k1; clear k1
              go_wp2_with fail
              go_quiet (fail)
              have R1 : RdAt (wr.drewN nq) B T q := HRi.out
              have W1 : Within B (B + 1) w (wr.drewN nq) := HWi.out.trans (Within.of_below (below_drewN' wr nq))
              generalize wr.drewN nq = wb at *
              have fb := R1.cell
              have zb := R1.frozen
              have HR3 := Lib.hid (show RdAt (wb.setCell ⟨B, 1, none⟩ (.int .i64 ((q : Int) + 1))) B T (q + 1) from R1.set_ 1 (.int .i64 ((q : Int) + 1)))
              have HW3 := Lib.hid (W1.trans (within_set wb B 1 (.int .i64 ((q : Int) + 1))))
              clear R1 W1 fi
              go_wp2_with fail
              go_roundw
              case rel => exact ⟨q + 1, by omega, by omega, HR3.out, HNX.out (by first | rfl | trivial), HW3.out⟩
              case measure => rw [standsAt_rd HR3.out, HSTi.out]; omega
            · have c1 : ¬ (48 : Int) ≤ (T[q].toNat : Int) := by omega
              have kd : decide ((48 : Int) ≤ (T[q].toNat : Int)) = false := decide_eq_false c1
              have kd' : decide (48 ≤ T[q].toNat) = false := decide_eq_false (by omega)
              have q45 : ((T[q].toNat : Int) == 45) = false := by rw [beq_eq_false_iff_ne]; omega
              have q46 : ((T[q].toNat : Int) == 46) = false := by rw [beq_eq_false_iff_ne]; omega
              clear k1 k2 k3
              go_wp2_with fail
              go_quiet (fail)
              have R1 : RdAt (wr.drewN nq) B T q := HRi.out
              have W1 : Within B (B + 1) w (wr.drewN nq) := HWi.out.trans (Within.of_below (below_drewN' wr nq))
              generalize wr.drewN nq = wb at *
              have HF1 := Lib.hid (show o ++ (T.data.toList.drop p).take (q - p) = Q.1 by rw [← H1.out, HT.out, (HEX.out (by first | rfl | trivial)).1])
              have HF2 := Lib.hid (drop_len T q Q.2 hq2 (by rw [← H2.out, HT.out, (HEX.out (by first | rfl | trivial)).2, List.drop_drop]; congr 1; omega))
              clear fi
              have fb := R1.cell
              go_wp2_with fail
              go_quiet (fail)
              have R2 : RdAt (wb.drewN nq) B T q := R1
              have W2 : Within B (B + 1) w (wb.drewN nq) := W1.trans (Within.of_below (below_drewN' wb nq))
              generalize wb.drewN nq = wz at *
              go_wp2_with fail
              go_ret
              exact ⟨by rw [← HF1.out, ← mk_app]; exact congrArg (fun z => Ending.returned (.string ((⟨o.toArray⟩ : ByteArray) ++ z))) (ByteArray.ext (Array.toList_inj.1 (by rw [extract_list]))), by rw [← HF2.out]; exact R2, W2, by have h9 := congrArg List.length HF1.out; simp only [List.length_append, List.length_take, List.length_drop, len_list] at h9; omega⟩
            · have c1 : (48 : Int) ≤ (T[q].toNat : Int) := by omega
              have c2 : ¬ (T[q].toNat : Int) ≤ 57 := by omega
              have kd : decide ((48 : Int) ≤ (T[q].toNat : Int)) = true := decide_eq_true c1
              have kd' : decide (48 ≤ T[q].toNat) = true := decide_eq_true (by omega)
              have ke : decide ((T[q].toNat : Int) ≤ 57) = false := decide_eq_false c2
              have ke' : decide (T[q].toNat ≤ 57) = false := decide_eq_false (by omega)
              have q45 : ((T[q].toNat : Int) == 45) = false := by rw [beq_eq_false_iff_ne]; omega
              have q46 : ((T[q].toNat : Int) == 46) = false := by rw [beq_eq_false_iff_ne]; omega
              go_wp2_with fail
              go_quiet (fail)
              have R1 : RdAt (wr.drewN nq) B T q := HRi.out
              have W1 : Within B (B + 1) w (wr.drewN nq) := HWi.out.trans (Within.of_below (below_drewN' wr nq))
              generalize wr.drewN nq = wb at *
              have HF1 := Lib.hid (show o ++ (T.data.toList.drop p).take (q - p) = Q.1 by rw [← H1.out, HT.out, (HEX.out (by first | rfl | trivial)).1])
              have HF2 := Lib.hid (drop_len T q Q.2 hq2 (by rw [← H2.out, HT.out, (HEX.out (by first | rfl | trivial)).2, List.drop_drop]; congr 1; omega))
              clear fi
              have fb := R1.cell
              go_wp2_with fail
              go_quiet (fail)
              have R2 : RdAt (wb.drewN nq) B T q := R1
              have W2 : Within B (B + 1) w (wb.drewN nq) := W1.trans (Within.of_below (below_drewN' wb nq))
              generalize wb.drewN nq = wz at *
              go_wp2_with fail
              go_ret
              exact ⟨by rw [← HF1.out, ← mk_app]; exact congrArg (fun z => Ending.returned (.string ((⟨o.toArray⟩ : ByteArray) ++ z))) (ByteArray.ext (Array.toList_inj.1 (by rw [extract_list]))), by rw [← HF2.out]; exact R2, W2, by have h9 := congrArg List.length HF1.out; simp only [List.length_append, List.length_take, List.length_drop, len_list] at h9; omega⟩
          · have i1 : ¬ (q : Int) < (T.size : Int) := by omega
            have kd : decide ((q : Int) < (T.size : Int)) = false := decide_eq_false i1
            have kd' : decide (q < T.size) = false := decide_eq_false hlt
            have HEX := Lib.hid (fun _ : true = true => span_exit numCh (T.data.toList.drop p) (q - p) (by rw [hlen]; omega) HALL.out (fun c hc => by rw [List.getElem?_eq_none (by rw [hlen]; omega)] at hc; cases hc))
            clear hlen
            go_wp2_with fail
            go_quiet (fail)
            have R1 : RdAt (wr.drewN nq) B T q := HRi.out
            have W1 : Within B (B + 1) w (wr.drewN nq) := HWi.out.trans (Within.of_below (below_drewN' wr nq))
            generalize wr.drewN nq = wb at *
            have HF1 := Lib.hid (show o ++ (T.data.toList.drop p).take (q - p) = Q.1 by rw [← H1.out, HT.out, (HEX.out (by first | rfl | trivial)).1])
            have HF2 := Lib.hid (drop_len T q Q.2 hq2 (by rw [← H2.out, HT.out, (HEX.out (by first | rfl | trivial)).2, List.drop_drop]; congr 1; omega))
            clear fi
            have fb := R1.cell
            go_wp2_with fail
            go_quiet (fail)
            have R2 : RdAt (wb.drewN nq) B T q := R1
            have W2 : Within B (B + 1) w (wb.drewN nq) := W1.trans (Within.of_below (below_drewN' wb nq))
            generalize wb.drewN nq = wz at *
            go_wp2_with fail
            go_ret
            exact ⟨by rw [← HF1.out, ← mk_app]; exact congrArg (fun z => Ending.returned (.string ((⟨o.toArray⟩ : ByteArray) ++ z))) (ByteArray.ext (Array.toList_inj.1 (by rw [extract_list]))), by rw [← HF2.out]; exact R2, W2, by have h9 := congrArg List.length HF1.out; simp only [List.length_append, List.length_take, List.length_drop, len_list] at h9; omega⟩
      · rw [hm2, if_pos rfl] at HM2
        have hpl := pre_place T p _ hm2 hp
        have HT := Lib.hid (tS_c g (T.data.toList.drop p) HP34.out hm2)
        clear hm2
        go_wp2_with fail
        refine HM2.out.mono ?_; rintro e2 w2 ⟨rfl, hr2, hw2⟩
        have hp3 : p + 3 ≤ T.size := hpl
        have hr2' : RdAt w2 B T (p + 3) := hr2
        obtain ⟨x, q, hq1, hq2, hxl, hcx, hcc⟩ := codesS_at B T (p + 3) (T.data.toList.drop p).length hp3 (by rw [List.length_drop, Array.length_toList]; show T.size - (p + 3) < T.size - p; omega) hT w2 hr2'
        have HCC := Lib.hid hcc
        have HX := Lib.hid (show tS (g + 1) (T.data.toList.drop p) = tT g (x, T.data.toList.drop q) by rw [HT.out, List.drop_drop]; exact congrArg (tT g) hcx)
        have HW2 := Lib.hid (HW1.out.trans hw2)
        have hxo : o.length + x.length ≤ 2 * q := by omega
        have hpq : p < q := by omega
        clear hcc hcx hr2 hr2' hw2 HT
        go_wp2_with fail
        refine HCC.out.mono ?_; rintro e3 w3 ⟨rfl, hr3, hw3⟩
        have HW3 := Lib.hid (HW2.out.trans hw3)
        have HM3 := Lib.hid (more_any B T ⟨#[95]⟩ q hq2 hT (by decide) w3 hr3)
        have hxs : x.length ≤ 3000000 := by omega
        clear hr3 hw3
        cases hm3 : (⟨#[95]⟩ : ByteArray).data.toList.isPrefixOf (T.data.toList.drop q)
        · rw [hm3, if_neg (by decide)] at HM3
          have HTS := Lib.hid (tT_stop g x (T.data.toList.drop q) (fun r e => by rw [(one_pre 95 _).2 ⟨r, e⟩] at hm3; cases hm3))
          clear hm3
          have HF1 := Lib.hid (show o ++ x = Q.1 by rw [← H1.out, HX.out, HTS.out])
          have HF2 := Lib.hid (drop_len T q Q.2 hq2 (by rw [← H2.out, HX.out, HTS.out]))
          go_wp2_with fail
          refine HM3.out.mono ?_; rintro e4 w4 ⟨rfl, hr4, hw4⟩
          have hW4 := HW3.out.trans hw4
          go_wp2_with fail
          go_ret
          exact ⟨by rw [← HF1.out, ← mk_app]; rfl, by rw [← HF2.out]; exact hr4, hW4, by rw [← HF1.out, List.length_append]; omega⟩
        · rw [hm3, if_pos rfl] at HM3
          obtain ⟨r, hr⟩ := (one_pre 95 _).1 hm3
          have hq3 : q < T.size := by
            rcases Nat.lt_or_ge q T.size with h' | h'
            · exact h'
            · rw [List.drop_of_length_le (by rw [Array.length_toList]; exact h')] at hr; cases hr
          have hr2 : r = T.data.toList.drop (q + 1) := by
            have := drop_at T q hq3
            rw [hr] at this
            injection this
          have HTS := Lib.hid (show tT g (x, T.data.toList.drop q) = (x ++ (tS g (T.data.toList.drop (q + 1))).1, (tS g (T.data.toList.drop (q + 1))).2) by rw [hr, tT_more, hr2])
          clear hm3 hr hr2
          go_wp2_with fail
          refine HM3.out.mono ?_; rintro e4 w4 ⟨rfl, hr4, hw4⟩
          have hr4' : RdAt w4 B T (q + 1) := hr4
          have hW4 := HW3.out.trans hw4
          go_wp2_with fail
          go_roundw
          case rel => exact ⟨q + 1, g, o ++ x, hq3, by omega, hr4', by rw [← mk_app], by rw [List.length_append]; omega, by rw [← H1.out, HX.out, HTS.out, List.append_assoc], by rw [← H2.out, HX.out, HTS.out], hW4⟩
          case measure => rw [standsAt_rd hr4', HST.out]; omega
    · rw [hm, if_pos rfl] at HM
      have hpl := pre_place T p _ hm hp
      have HT := Lib.hid (tS_q g (T.data.toList.drop p) hm)
      clear hm
      go_wp2_with fail
      refine HM.out.mono ?_; rintro e2 w2 ⟨rfl, hr2, hw2⟩
      have hp3 : p + 1 ≤ T.size := hpl
      have hr2' : RdAt w2 B T (p + 1) := hr2
      obtain ⟨x, q, hq1, hq2, hxl, hcx, hcc⟩ := quotedS_at B T (p + 1) hp3 hT w2 hr2'
      have HCC := Lib.hid hcc
      have HX := Lib.hid (show tS (g + 1) (T.data.toList.drop p) = tT g (x, T.data.toList.drop q) by rw [HT.out, List.drop_drop]; exact congrArg (tT g) hcx)
      have HW2 := Lib.hid (HW.out.trans hw2)
      have hxo : o.length + x.length ≤ 2 * q := by omega
      have hpq : p < q := by omega
      clear hcc hcx hr2 hr2' hw2 HT
      go_wp2_with fail
      refine HCC.out.mono ?_; rintro e3 w3 ⟨rfl, hr3, hw3⟩
      have HW3 := Lib.hid (HW2.out.trans hw3)
      have HM3 := Lib.hid (more_any B T ⟨#[95]⟩ q hq2 hT (by decide) w3 hr3)
      have hxs : x.length ≤ 3000000 := by omega
      clear hr3 hw3
      cases hm3 : (⟨#[95]⟩ : ByteArray).data.toList.isPrefixOf (T.data.toList.drop q)
      · rw [hm3, if_neg (by decide)] at HM3
        have HTS := Lib.hid (tT_stop g x (T.data.toList.drop q) (fun r e => by rw [(one_pre 95 _).2 ⟨r, e⟩] at hm3; cases hm3))
        clear hm3
        have HF1 := Lib.hid (show o ++ x = Q.1 by rw [← H1.out, HX.out, HTS.out])
        have HF2 := Lib.hid (drop_len T q Q.2 hq2 (by rw [← H2.out, HX.out, HTS.out]))
        go_wp2_with fail
        refine HM3.out.mono ?_; rintro e4 w4 ⟨rfl, hr4, hw4⟩
        have hW4 := HW3.out.trans hw4
        go_wp2_with fail
        go_ret
        exact ⟨by rw [← HF1.out, ← mk_app]; rfl, by rw [← HF2.out]; exact hr4, hW4, by rw [← HF1.out, List.length_append]; omega⟩
      · rw [hm3, if_pos rfl] at HM3
        obtain ⟨r, hr⟩ := (one_pre 95 _).1 hm3
        have hq3 : q < T.size := by
          rcases Nat.lt_or_ge q T.size with h' | h'
          · exact h'
          · rw [List.drop_of_length_le (by rw [Array.length_toList]; exact h')] at hr; cases hr
        have hr2 : r = T.data.toList.drop (q + 1) := by
          have := drop_at T q hq3
          rw [hr] at this
          injection this
        have HTS := Lib.hid (show tT g (x, T.data.toList.drop q) = (x ++ (tS g (T.data.toList.drop (q + 1))).1, (tS g (T.data.toList.drop (q + 1))).2) by rw [hr, tT_more, hr2])
        clear hm3 hr hr2
        go_wp2_with fail
        refine HM3.out.mono ?_; rintro e4 w4 ⟨rfl, hr4, hw4⟩
        have hr4' : RdAt w4 B T (q + 1) := hr4
        have hW4 := HW3.out.trans hw4
        go_wp2_with fail
        go_roundw
        case rel => exact ⟨q + 1, g, o ++ x, hq3, by omega, hr4', by rw [← mk_app], by rw [List.length_append]; omega, by rw [← H1.out, HX.out, HTS.out, List.append_assoc], by rw [← H2.out, HX.out, HTS.out], hW4⟩
        case measure => rw [standsAt_rd hr4', HST.out]; omega
end Go.Proofs.YtfibjcaidnofmaaGreatDoor

