/- The library's stable sort at nodes walked: symMerge, the general way (printed by wip/gen_srt.py). -/
import Derived.Test.YtfibjcaidnofmaaGreatDoorJoinEXBk
namespace Go.Proofs.YtfibjcaidnofmaaGreatDoor
open Go.RowKit
open Go.Sort hiding Below

variable {T : World → Prop}

set_option maxHeartbeats 16000000 in
set_option maxRecDepth 100000 in
theorem sym_gen (hC : CmpN T) (w0 w : World) (g c sz a m b : Nat) (hIH : SymIH T w0 g c sz) (d : Array ElN) (h : LotN T w0 w g c d) (ham : a + 1 < m) (hmb : m + 1 < b) (hb : b ≤ d.size) (hs1 : SortedIn ltQ a m d) (hs2 : SortedIn ltQ m b d) (hba : b - a ≤ sz + 1) :
    Calls Tryz.prog 155 #[.slice (some ⟨g, 0, none⟩) d.size c, .int .i64 a, .int .i64 m, .int .i64 b, cmpV] w (SymOk T w0 g c a b d w) := by
  have HL := Lib.hid h
  have HC := Lib.hid hC
  have HIH := Lib.hid hIH
  have HS1 := Lib.hid hs1
  have HS2 := Lib.hid hs2
  have hN := h.few
  have i0 : ((m : Int) - (a : Int) == 1) = false := beq_eq_false_iff_ne.2 (by omega)
  have i01 : ((b : Int) - (m : Int) == 1) = false := beq_eq_false_iff_ne.2 (by omega)
  obtain ⟨mid, hmid⟩ : ∃ mid, mid = (a + b) / 2 := ⟨_, rfl⟩
  have hmz : ((a : Int) + (b : Int)) / 2 = (mid : Int) := by omega
  obtain ⟨n, hn⟩ : ∃ n, n = mid + m := ⟨_, rfl⟩
  have hnz : (mid : Int) + (m : Int) = (n : Int) := by omega
  obtain ⟨p, hp⟩ : ∃ p, p = mid + m - 1 := ⟨_, rfl⟩
  have hpz : (n : Int) - 1 = (p : Int) := by omega
  have hmid1 : a < mid := by omega
  have hmid2 : mid < b := by omega
  have hnB : n ≤ 240 := by omega
  have hpB : p ≤ 240 := by omega
  have HMID := Lib.hid hmid
  have HP := Lib.hid hp
  have HN := Lib.hid hn
  have hcutd : ∀ s r : Nat, s = (if mid < m then n - b else a) → r = (if mid < m then mid else m) → CutI ltQ d a m b mid s r := fun s r e1 e2 => CutI.start (by rw [e1, hn]) e2 (by rw [e1, e2]; split <;> omega)
  have HCD := Lib.hid hcutd
  clear h hC hIH hs1 hs2 hmid hn hp hcutd
  go_enter Tryz.func155, Tryz.ntmps155
  go_upto_if 140 with fail
  go_cut [20, 21] (fun x y wr => ∃ (s r : Nat), x = .int .i64 s ∧ y = .int .i64 r ∧ CutI ltQ d a m b mid s r ∧ w = wr)
  case first =>
    by_cases hmm : mid < m
    · have i2 : (mid : Int) < (m : Int) := by omega
      have hnb : b ≤ n := by have h1 := HMID.out; have h2 := HN.out; omega
      have HCD2 := Lib.hid (HCD.out (n - b) mid (by rw [if_pos hmm]) (by rw [if_pos hmm]))
      go_wp2_with fail
      go_meet
      case rel => exact ⟨n - b, mid, congrArg (Value.int .i64) (by omega), rfl, HCD2.out, rfl⟩
    · have i2 : ¬ (mid : Int) < (m : Int) := by omega
      have HCD2 := Lib.hid (HCD.out a m (by rw [if_neg hmm]) (by rw [if_neg hmm]))
      go_wp2_with fail
      go_meet
      case rel => exact ⟨a, m, rfl, rfl, HCD2.out, rfl⟩
  case rest =>
    obtain ⟨s0, r0, rfl, rfl, hCut0, rfl⟩ := hcut
    have HCut0 := Lib.hid hCut0
    clear hCut0 HCD
    go_wp2_with fail
    go_loopw [20, 21, 23] (fun x y _ wr => ∃ (s r : Nat), x = .int .i64 s ∧ y = .int .i64 r ∧ CutI ltQ d a m b mid s r ∧ LotN T w0 wr g c d ∧ w.heap.size ≤ wr.heap.size) (fun x y _ _ => (intOf y).toNat - (intOf x).toNat)
    case atStart => exact ⟨s0, r0, rfl, rfl, HCut0.out, HL.out, Nat.le_refl _⟩
    case round =>
      obtain ⟨s, r, rfl, rfl, hCut, hLe, hsz⟩ := hrel
      have hsr := hCut.le
      have HCut := Lib.hid hCut
      by_cases hlt : s < r
      · have i3 : (s : Int) < (r : Int) := by omega
        obtain ⟨q, hqe⟩ : ∃ q, q = (s + r) / 2 := ⟨_, rfl⟩
        have hr0 : r ≤ 240 := by have h1 := hCut.re; split at h1 <;> omega
        have hqz : ((s : Int) + (r : Int)) / 2 = (q : Int) := by omega
        have hq1 : s ≤ q := by omega
        have hq2 : q < r := by omega
        obtain ⟨hy1, hq3, hy2⟩ := hCut.in_ HMID.out (by omega) (by omega) hq1 hq2
        obtain ⟨y, hye⟩ : ∃ y, y = mid + m - 1 - q := ⟨_, rfl⟩
        have hpe := HP.out
        have hyz : (p : Int) - (q : Int) = (y : Int) := by omega
        have hyd : y < d.size := by omega
        have hqd : q < d.size := by omega
        have HUP := Lib.hid (show ltQ d[y]! d[q]! = false → CutI ltQ d a m b mid (q + 1) r from fun ht => hCut.up swo_ltQ HS1.out HS2.out HMID.out (by omega) (by omega) hq1 hq2 (by rw [← hye]; exact ht))
        have HDN := Lib.hid (show ltQ d[y]! d[q]! = true → CutI ltQ d a m b mid s q from fun ht => hCut.down swo_ltQ HS1.out HS2.out HMID.out (by omega) (by omega) hq1 hq2 (by rw [← hye]; exact ht))
        clear hqe hye hpe hy1 hy2 hCut
        obtain ⟨xi, xj, hpr⟩ := LotN.pair (show LotN T w0 wr.drew g c d from hLe.below (below_drewN' wr 1)) hyd hqd
        have HD := Lib.hid hpr
        have hsz3 : w.heap.size ≤ wr.drew.heap.size := hsz
        clear hpr hLe
        go_wp2_with fail
        refine AnyT.region (fun _ => false) (fun W => W.rangeAt g (y * 3) xi ∧ W.rangeAt g (q * 3) xj) (by kernel_rfl) ⟨HD.out.ri, HD.out.rj⟩ (fun hHeld => ?_)
        generalize wr.drew = w4 at *
        ((refine AnyT.takeAny 0 158 ?_ rfl (by kernel_rfl) (by kernel_rfl) (by kernel_rfl) rfl rfl (fun _ _ _ _ h => h) rfl ?_ (by assumption) ?_); rotate_left; (intro w; go_simp; (try (with_reducible rfl))); simp only [Act.put, List.setIfInBounds_toArray, List.set_cons_zero, List.set_cons_succ])
        ((refine AnyT.takeAny 1 159 ?_ rfl (by kernel_rfl) (by kernel_rfl) (by kernel_rfl) rfl rfl (fun _ _ _ _ h => h) rfl ?_ (by assumption) ?_); rotate_left; (intro w; go_simp; (try (with_reducible rfl))); simp only [Act.put, List.setIfInBounds_toArray, List.set_cons_zero, List.set_cons_succ])
        ((refine AnyT.takeAny 2 160 ?_ rfl (by kernel_rfl) (by kernel_rfl) (by kernel_rfl) rfl rfl (fun _ _ _ _ h => h) rfl ?_ (by assumption) ?_); rotate_left; (intro w; go_simp; (try (with_reducible rfl))); simp only [Act.put, List.setIfInBounds_toArray, List.set_cons_zero, List.set_cons_succ])
        ((refine AnyT.takeAny 3 161 ?_ rfl (by kernel_rfl) (by kernel_rfl) (by kernel_rfl) rfl rfl (fun _ _ _ _ h => h) rfl ?_ (by assumption) ?_); rotate_left; (intro w; go_simp; (try (with_reducible rfl))); simp only [Act.put, List.setIfInBounds_toArray, List.set_cons_zero, List.set_cons_succ])
        refine AnyT.takeAny 4 162 (.int .i64 (y : Int)) rfl (by kernel_rfl) (by kernel_rfl) (by kernel_rfl) rfl rfl (fun _ _ _ _ h => h) rfl (fun W => by go_simp; (try (first | (with_reducible rfl) | (rw [IntKind.wrap_i64]; omega) | (congr 1; omega) | (congr 2; omega) | (congr 3; omega) | (congr 4; omega) | (congr 5; omega)))) (by assumption) ?_
        simp only [Act.put, List.setIfInBounds_toArray, List.set_cons_zero, List.set_cons_succ]
        refine AnyT.takeAny 5 163 (.pointer (some ⟨g, y * 3, none⟩)) rfl (by kernel_rfl) (by kernel_rfl) (by kernel_rfl) rfl rfl (fun _ _ _ _ h => h) rfl (fun W => by go_simp; (try (first | (with_reducible rfl) | (rw [IntKind.wrap_i64]; omega) | (congr 1; omega) | (congr 2; omega) | (congr 3; omega) | (congr 4; omega) | (congr 5; omega)))) (by assumption) ?_
        simp only [Act.put, List.setIfInBounds_toArray, List.set_cons_zero, List.set_cons_succ]
        refine AnyT.take 6 164 (.agg (xi).toArray) rfl (by kernel_rfl) (by kernel_rfl) (by kernel_rfl) (by kernel_rfl) rfl (by kernel_rfl) rfl (fun _ _ _ _ h => h) rfl (fun W hS => exec_loadMid _ _ rfl g (y * 3) rfl (xi) hS.1 Tryz.underlying32 rfl (HD.out.si)) (by assumption) ?_
        simp only [Act.put, List.setIfInBounds_toArray, List.set_cons_zero, List.set_cons_succ]
        ((refine AnyT.takeAny 7 165 ?_ rfl (by kernel_rfl) (by kernel_rfl) (by kernel_rfl) rfl rfl (fun _ _ _ _ h => h) rfl ?_ (by assumption) ?_); rotate_left; (intro w; go_simp; (try (with_reducible rfl))); simp only [Act.put, List.setIfInBounds_toArray, List.set_cons_zero, List.set_cons_succ])
        ((refine AnyT.takeAny 8 166 ?_ rfl (by kernel_rfl) (by kernel_rfl) (by kernel_rfl) rfl rfl (fun _ _ _ _ h => h) rfl ?_ (by assumption) ?_); rotate_left; (intro w; go_simp; (try (with_reducible rfl))); simp only [Act.put, List.setIfInBounds_toArray, List.set_cons_zero, List.set_cons_succ])
        refine AnyT.takeAny 9 167 (.pointer (some ⟨g, q * 3, none⟩)) rfl (by kernel_rfl) (by kernel_rfl) (by kernel_rfl) rfl rfl (fun _ _ _ _ h => h) rfl (fun W => by go_simp; (try (first | (with_reducible rfl) | (rw [IntKind.wrap_i64]; omega) | (congr 1; omega) | (congr 2; omega) | (congr 3; omega) | (congr 4; omega) | (congr 5; omega)))) (by assumption) ?_
        simp only [Act.put, List.setIfInBounds_toArray, List.set_cons_zero, List.set_cons_succ]
        refine AnyT.take 10 168 (.agg (xj).toArray) rfl (by kernel_rfl) (by kernel_rfl) (by kernel_rfl) (by kernel_rfl) rfl (by kernel_rfl) rfl (fun _ _ _ _ h => h) rfl (fun W hS => exec_loadMid _ _ rfl g (q * 3) rfl (xj) hS.2 Tryz.underlying32 rfl (HD.out.sj)) (by assumption) ?_
        simp only [Act.put, List.setIfInBounds_toArray, List.set_cons_zero, List.set_cons_succ]
        ((refine AnyT.one (i := 11) (by kernel_rfl) rfl (fun K hK => ?_)))
        go_simp
        refine (HD.out.cmp HC.out).mono ?_
        rintro e5 w5 ⟨⟨v, rfl, hv⟩, hb5⟩
        go_simp
        have HL5 := Lib.hid (HD.out.lot.below hb5)
        have hsz5 := hb5.size
        clear hHeld
        refine hK.out _ _ ⟨rng_below HD.out.ri hb5 HD.out.lot.lot.lt, rng_below HD.out.rj hb5 HD.out.lot.lot.lt⟩ (fun hHeld => ?_)
        clear hK K hb5
        (try simp only [Act.put, List.setIfInBounds_toArray, List.set_cons_zero, List.set_cons_succ])
        by_cases hv0 : v < 0
        · rw [decide_eq_true hv0] at hv
          have HC2 := Lib.hid (HDN.out hv)
          clear hv
          ((refine AnyT.takeAny 12 170 ?_ rfl (by kernel_rfl) (by kernel_rfl) (by kernel_rfl) rfl rfl (fun _ _ _ _ h => h) rfl ?_ (by assumption) ?_); rotate_left; (intro w; go_simp; (try (with_reducible rfl))); simp only [Act.put, List.setIfInBounds_toArray, List.set_cons_zero, List.set_cons_succ])
          ((refine AnyT.takeAny 13 171 ?_ rfl (by kernel_rfl) (by kernel_rfl) (by kernel_rfl) rfl rfl (fun _ _ _ _ h => h) rfl ?_ (by assumption) ?_); rotate_left; (intro w; go_simp; (try (with_reducible rfl))); simp only [Act.put, List.setIfInBounds_toArray, List.set_cons_zero, List.set_cons_succ])
          refine AnyT.done (by kernel_rfl) ?_ _
          clear hHeld HD
          go_wp2_with fail
          go_roundw
          case rel => exact ⟨s, q, rfl, by go_num, HC2.out, HL5.out, by omega⟩
          case measure => simp [intOf]; omega
        · rw [decide_eq_false hv0] at hv
          have HC2 := Lib.hid (HUP.out hv)
          clear hv
          ((refine AnyT.takeAny 12 170 ?_ rfl (by kernel_rfl) (by kernel_rfl) (by kernel_rfl) rfl rfl (fun _ _ _ _ h => h) rfl ?_ (by assumption) ?_); rotate_left; (intro w; go_simp; (try (with_reducible rfl))); simp only [Act.put, List.setIfInBounds_toArray, List.set_cons_zero, List.set_cons_succ])
          ((refine AnyT.takeAny 13 171 ?_ rfl (by kernel_rfl) (by kernel_rfl) (by kernel_rfl) rfl rfl (fun _ _ _ _ h => h) rfl ?_ (by assumption) ?_); rotate_left; (intro w; go_simp; (try (with_reducible rfl))); simp only [Act.put, List.setIfInBounds_toArray, List.set_cons_zero, List.set_cons_succ])
          refine AnyT.done (by kernel_rfl) ?_ _
          clear hHeld HD
          go_wp2_with fail
          go_roundw
          case rel => exact ⟨q + 1, r, by go_num, rfl, HC2.out, HL5.out, by omega⟩
          case measure => simp [intOf]; omega
      · obtain rfl : s = r := by omega
        have i3 : ¬ (s : Int) < (s : Int) := by omega
        have HCutD := Lib.hid hCut.done
        have hre := hCut.re
        have hge := hCut.ge
        have hne := HN.out
        obtain ⟨en, hen⟩ : ∃ en, en = mid + m - s := ⟨_, rfl⟩
        have hB : a ≤ s ∧ s ≤ mid ∧ mid ≤ en ∧ en ≤ b ∧ s ≤ m ∧ m ≤ en := by split at hge <;> split at hre <;> omega
        have hez : (n : Int) - (s : Int) = (en : Int) := by omega
        have HEN := Lib.hid hen
        have HLe := Lib.hid hLe
        clear hre hge hen hLe hCut hne
        obtain ⟨b1, b2, b3, b4, b5, b6⟩ := hB
        by_cases hC1 : s < m ∧ m < en
        · first
            | (exfalso; have hq := HEN.out; omega)
            | skip
              have j1 : (s : Int) < (m : Int) := by omega
              have j2 : (m : Int) < (en : Int) := by omega
              go_wp2_with fail
              refine (rotate_i w0 _ g c s m en _ _ _ rfl rfl rfl _ d rfl HLe.out hC1.1 hC1.2 (by omega)).mono ?_
              rintro e6 w6 ⟨rfl, hsz6, d1, hL1, hP1, hR1⟩
              have HL1 := Lib.hid hL1
              have HP1 := Lib.hid (permIn_more hP1 b1 b4 hb)
              have HM := Lib.hid (sym_mid (d1 := d1) swo_ltQ HS1.out HS2.out HMID.out (by omega) (by omega) HCutD.out HEN.out (.inl hR1)).2
              clear hL1 hP1 hR1
              have hd1s : d1.size = d.size := HP1.out.1
              by_cases hC2 : a < s ∧ s < mid
              · first
                  | (exfalso; have hq := HEN.out; omega)
                  | skip
                    have j3 : (a : Int) < (s : Int) := by omega
                    have j4 : (s : Int) < (mid : Int) := by omega
                    go_wp2_with fail
                    refine (HIH.out a s mid _ _ _ _ d1 _ rfl rfl rfl hd1s.symm (by omega) HL1.out (by omega) (by omega) (by omega) HM.out.1 HM.out.2.1).mono ?_
                    rintro e7 w7 ⟨rfl, hsz7, d2, hL2, hP2, hS2⟩
                    have HL2 := Lib.hid hL2
                    have HP2 := Lib.hid hP2
                    have HS2' := Lib.hid hS2
                    clear hL2 hP2 hS2
                    have HD2 := Lib.hid (show (PermIn a mid d1 d2 ∧ SortedIn ltQ a mid d2) ∨ (¬ (a < s ∧ s < mid) ∧ d2 = d1) from .inl ⟨HP2.out, HS2'.out⟩)
                    have HZ2 := Lib.hid (show d2.size = d.size from HP2.out.1.trans HP1.out.1)
                    have HC2 := Lib.hid (show SortedIn ltQ mid en d2 from sorted_far HM.out.2.2.1 HP2.out (.inr (Nat.le_refl _)))
                    have HE2 := Lib.hid (show SortedIn ltQ en b d2 from sorted_far HM.out.2.2.2.1 HP2.out (.inr b3))
                    have hd2s : d2.size = d.size := HZ2.out
                    by_cases hC3 : mid < en ∧ en < b
                    · first
                        | (exfalso; have hq := HEN.out; omega)
                        | skip
                          have j5 : (mid : Int) < (en : Int) := by omega
                          have j6 : (en : Int) < (b : Int) := by omega
                          go_wp2_with fail
                          refine (HIH.out mid en b _ _ _ _ d2 _ rfl rfl rfl hd2s.symm (by omega) HL2.out (by omega) (by omega) (by omega) HC2.out HE2.out).mono ?_
                          rintro e8 w8 ⟨rfl, hsz8, d3, hL3, hP3, hS3⟩
                          have HL3 := Lib.hid hL3
                          have HP3 := Lib.hid hP3
                          have HS3 := Lib.hid hS3
                          clear hL3 hP3 hS3
                          have HO := Lib.hid (show SymOk T w0 g c a b d w (.returned (.tuple #[])) w8 from by
                            obtain ⟨t1, t2⟩ := sym_fin hb ⟨b1, b2, b3, b4⟩ HP1.out HM.out.1 HM.out.2.1 HM.out.2.2.1 HM.out.2.2.2.1 HM.out.2.2.2.2 HD2.out (.inl ⟨HP3.out, HS3.out⟩)
                            exact ⟨rfl, by omega, d3, HL3.out, t1, t2⟩)
                          go_wp2_with fail
                          go_end0
                          exact HO.out
                    · by_cases hx5 : mid < en
                      · first
                          | (exfalso; have hq := HEN.out; omega)
                          | skip
                            have j5 : (mid : Int) < (en : Int) := by omega
                            have j6 : ¬ (en : Int) < (b : Int) := by omega
                            have HO := Lib.hid (show SymOk T w0 g c a b d w (.returned (.tuple #[])) w7 from by
                              obtain ⟨t1, t2⟩ := sym_fin hb ⟨b1, b2, b3, b4⟩ HP1.out HM.out.1 HM.out.2.1 HM.out.2.2.1 HM.out.2.2.2.1 HM.out.2.2.2.2 HD2.out (.inr ⟨hC3, rfl⟩)
                              exact ⟨rfl, by omega, d2, HL2.out, t1, t2⟩)
                            go_wp2_with fail
                            go_end0
                            exact HO.out
                      · first
                          | (exfalso; have hq := HEN.out; omega)
                          | skip
                            have j5 : ¬ (mid : Int) < (en : Int) := by omega
                            have HO := Lib.hid (show SymOk T w0 g c a b d w (.returned (.tuple #[])) w7 from by
                              obtain ⟨t1, t2⟩ := sym_fin hb ⟨b1, b2, b3, b4⟩ HP1.out HM.out.1 HM.out.2.1 HM.out.2.2.1 HM.out.2.2.2.1 HM.out.2.2.2.2 HD2.out (.inr ⟨hC3, rfl⟩)
                              exact ⟨rfl, by omega, d2, HL2.out, t1, t2⟩)
                            go_wp2_with fail
                            go_end0
                            exact HO.out
              · by_cases hx3 : a < s
                · first
                    | (exfalso; have hq := HEN.out; omega)
                    | skip
                      have j3 : (a : Int) < (s : Int) := by omega
                      have j4 : ¬ (s : Int) < (mid : Int) := by omega
                      obtain ⟨d2, hd2⟩ : ∃ d2, d2 = d1 := ⟨_, rfl⟩
                      have HD2 := Lib.hid (show (PermIn a mid d1 d2 ∧ SortedIn ltQ a mid d2) ∨ (¬ (a < s ∧ s < mid) ∧ d2 = d1) from .inr ⟨hC2, hd2⟩)
                      have HZ2 := Lib.hid (show d2.size = d.size by rw [hd2]; exact HP1.out.1)
                      have HC2 := Lib.hid (show SortedIn ltQ mid en d2 by rw [hd2]; exact HM.out.2.2.1)
                      have HE2 := Lib.hid (show SortedIn ltQ en b d2 by rw [hd2]; exact HM.out.2.2.2.1)
                      have HL2 := Lib.hid (show LotN T w0 w6 g c d2 by rw [hd2]; exact HL1.out)
                      clear hd2
                      have hd2s : d2.size = d.size := HZ2.out
                      by_cases hC3 : mid < en ∧ en < b
                      · first
                          | (exfalso; have hq := HEN.out; omega)
                          | skip
                            have j5 : (mid : Int) < (en : Int) := by omega
                            have j6 : (en : Int) < (b : Int) := by omega
                            go_wp2_with fail
                            refine (HIH.out mid en b _ _ _ _ d2 _ rfl rfl rfl hd2s.symm (by omega) HL2.out (by omega) (by omega) (by omega) HC2.out HE2.out).mono ?_
                            rintro e8 w8 ⟨rfl, hsz8, d3, hL3, hP3, hS3⟩
                            have HL3 := Lib.hid hL3
                            have HP3 := Lib.hid hP3
                            have HS3 := Lib.hid hS3
                            clear hL3 hP3 hS3
                            have HO := Lib.hid (show SymOk T w0 g c a b d w (.returned (.tuple #[])) w8 from by
                              obtain ⟨t1, t2⟩ := sym_fin hb ⟨b1, b2, b3, b4⟩ HP1.out HM.out.1 HM.out.2.1 HM.out.2.2.1 HM.out.2.2.2.1 HM.out.2.2.2.2 HD2.out (.inl ⟨HP3.out, HS3.out⟩)
                              exact ⟨rfl, by omega, d3, HL3.out, t1, t2⟩)
                            go_wp2_with fail
                            go_end0
                            exact HO.out
                      · by_cases hx5 : mid < en
                        · first
                            | (exfalso; have hq := HEN.out; omega)
                            | skip
                              have j5 : (mid : Int) < (en : Int) := by omega
                              have j6 : ¬ (en : Int) < (b : Int) := by omega
                              have HO := Lib.hid (show SymOk T w0 g c a b d w (.returned (.tuple #[])) w6 from by
                                obtain ⟨t1, t2⟩ := sym_fin hb ⟨b1, b2, b3, b4⟩ HP1.out HM.out.1 HM.out.2.1 HM.out.2.2.1 HM.out.2.2.2.1 HM.out.2.2.2.2 HD2.out (.inr ⟨hC3, rfl⟩)
                                exact ⟨rfl, by omega, d2, HL2.out, t1, t2⟩)
                              go_wp2_with fail
                              go_end0
                              exact HO.out
                        · first
                            | (exfalso; have hq := HEN.out; omega)
                            | skip
                              have j5 : ¬ (mid : Int) < (en : Int) := by omega
                              have HO := Lib.hid (show SymOk T w0 g c a b d w (.returned (.tuple #[])) w6 from by
                                obtain ⟨t1, t2⟩ := sym_fin hb ⟨b1, b2, b3, b4⟩ HP1.out HM.out.1 HM.out.2.1 HM.out.2.2.1 HM.out.2.2.2.1 HM.out.2.2.2.2 HD2.out (.inr ⟨hC3, rfl⟩)
                                exact ⟨rfl, by omega, d2, HL2.out, t1, t2⟩)
                              go_wp2_with fail
                              go_end0
                              exact HO.out
                · first
                    | (exfalso; have hq := HEN.out; omega)
                    | skip
                      have j3 : ¬ (a : Int) < (s : Int) := by omega
                      obtain ⟨d2, hd2⟩ : ∃ d2, d2 = d1 := ⟨_, rfl⟩
                      have HD2 := Lib.hid (show (PermIn a mid d1 d2 ∧ SortedIn ltQ a mid d2) ∨ (¬ (a < s ∧ s < mid) ∧ d2 = d1) from .inr ⟨hC2, hd2⟩)
                      have HZ2 := Lib.hid (show d2.size = d.size by rw [hd2]; exact HP1.out.1)
                      have HC2 := Lib.hid (show SortedIn ltQ mid en d2 by rw [hd2]; exact HM.out.2.2.1)
                      have HE2 := Lib.hid (show SortedIn ltQ en b d2 by rw [hd2]; exact HM.out.2.2.2.1)
                      have HL2 := Lib.hid (show LotN T w0 w6 g c d2 by rw [hd2]; exact HL1.out)
                      clear hd2
                      have hd2s : d2.size = d.size := HZ2.out
                      by_cases hC3 : mid < en ∧ en < b
                      · first
                          | (exfalso; have hq := HEN.out; omega)
                          | skip
                            have j5 : (mid : Int) < (en : Int) := by omega
                            have j6 : (en : Int) < (b : Int) := by omega
                            go_wp2_with fail
                            refine (HIH.out mid en b _ _ _ _ d2 _ rfl rfl rfl hd2s.symm (by omega) HL2.out (by omega) (by omega) (by omega) HC2.out HE2.out).mono ?_
                            rintro e8 w8 ⟨rfl, hsz8, d3, hL3, hP3, hS3⟩
                            have HL3 := Lib.hid hL3
                            have HP3 := Lib.hid hP3
                            have HS3 := Lib.hid hS3
                            clear hL3 hP3 hS3
                            have HO := Lib.hid (show SymOk T w0 g c a b d w (.returned (.tuple #[])) w8 from by
                              obtain ⟨t1, t2⟩ := sym_fin hb ⟨b1, b2, b3, b4⟩ HP1.out HM.out.1 HM.out.2.1 HM.out.2.2.1 HM.out.2.2.2.1 HM.out.2.2.2.2 HD2.out (.inl ⟨HP3.out, HS3.out⟩)
                              exact ⟨rfl, by omega, d3, HL3.out, t1, t2⟩)
                            go_wp2_with fail
                            go_end0
                            exact HO.out
                      · by_cases hx5 : mid < en
                        · first
                            | (exfalso; have hq := HEN.out; omega)
                            | skip
                              have j5 : (mid : Int) < (en : Int) := by omega
                              have j6 : ¬ (en : Int) < (b : Int) := by omega
                              have HO := Lib.hid (show SymOk T w0 g c a b d w (.returned (.tuple #[])) w6 from by
                                obtain ⟨t1, t2⟩ := sym_fin hb ⟨b1, b2, b3, b4⟩ HP1.out HM.out.1 HM.out.2.1 HM.out.2.2.1 HM.out.2.2.2.1 HM.out.2.2.2.2 HD2.out (.inr ⟨hC3, rfl⟩)
                                exact ⟨rfl, by omega, d2, HL2.out, t1, t2⟩)
                              go_wp2_with fail
                              go_end0
                              exact HO.out
                        · first
                            | (exfalso; have hq := HEN.out; omega)
                            | skip
                              have j5 : ¬ (mid : Int) < (en : Int) := by omega
                              have HO := Lib.hid (show SymOk T w0 g c a b d w (.returned (.tuple #[])) w6 from by
                                obtain ⟨t1, t2⟩ := sym_fin hb ⟨b1, b2, b3, b4⟩ HP1.out HM.out.1 HM.out.2.1 HM.out.2.2.1 HM.out.2.2.2.1 HM.out.2.2.2.2 HD2.out (.inr ⟨hC3, rfl⟩)
                                exact ⟨rfl, by omega, d2, HL2.out, t1, t2⟩)
                              go_wp2_with fail
                              go_end0
                              exact HO.out
        · obtain ⟨d1, hd1⟩ : ∃ d1, d1 = d := ⟨_, rfl⟩
          have HL1 := Lib.hid (show LotN T w0 wr g c d1 by rw [hd1]; exact HLe.out)
          have HP1 := Lib.hid (show PermIn a b d d1 by rw [hd1]; exact permIn_refl _ _ _)
          have HM := Lib.hid (sym_mid (d1 := d1) swo_ltQ HS1.out HS2.out HMID.out (by omega) (by omega) HCutD.out HEN.out (.inr ⟨hC1, hd1⟩)).2
          have hd1s0 : d1.size = d.size := by rw [hd1]
          clear hd1
          by_cases hx1 : s < m
          · first
              | (exfalso; have hq := HEN.out; omega)
              | skip
                have j1 : (s : Int) < (m : Int) := by omega
                have j2 : ¬ (m : Int) < (en : Int) := by omega
                have hd1s : d1.size = d.size := HP1.out.1
                by_cases hC2 : a < s ∧ s < mid
                · first
                    | (exfalso; have hq := HEN.out; omega)
                    | skip
                      have j3 : (a : Int) < (s : Int) := by omega
                      have j4 : (s : Int) < (mid : Int) := by omega
                      go_wp2_with fail
                      refine (HIH.out a s mid _ _ _ _ d1 _ rfl rfl rfl hd1s.symm (by omega) HL1.out (by omega) (by omega) (by omega) HM.out.1 HM.out.2.1).mono ?_
                      rintro e7 w7 ⟨rfl, hsz7, d2, hL2, hP2, hS2⟩
                      have HL2 := Lib.hid hL2
                      have HP2 := Lib.hid hP2
                      have HS2' := Lib.hid hS2
                      clear hL2 hP2 hS2
                      have HD2 := Lib.hid (show (PermIn a mid d1 d2 ∧ SortedIn ltQ a mid d2) ∨ (¬ (a < s ∧ s < mid) ∧ d2 = d1) from .inl ⟨HP2.out, HS2'.out⟩)
                      have HZ2 := Lib.hid (show d2.size = d.size from HP2.out.1.trans HP1.out.1)
                      have HC2 := Lib.hid (show SortedIn ltQ mid en d2 from sorted_far HM.out.2.2.1 HP2.out (.inr (Nat.le_refl _)))
                      have HE2 := Lib.hid (show SortedIn ltQ en b d2 from sorted_far HM.out.2.2.2.1 HP2.out (.inr b3))
                      have hd2s : d2.size = d.size := HZ2.out
                      by_cases hC3 : mid < en ∧ en < b
                      · first
                          | (exfalso; have hq := HEN.out; omega)
                          | skip
                            have j5 : (mid : Int) < (en : Int) := by omega
                            have j6 : (en : Int) < (b : Int) := by omega
                            go_wp2_with fail
                            refine (HIH.out mid en b _ _ _ _ d2 _ rfl rfl rfl hd2s.symm (by omega) HL2.out (by omega) (by omega) (by omega) HC2.out HE2.out).mono ?_
                            rintro e8 w8 ⟨rfl, hsz8, d3, hL3, hP3, hS3⟩
                            have HL3 := Lib.hid hL3
                            have HP3 := Lib.hid hP3
                            have HS3 := Lib.hid hS3
                            clear hL3 hP3 hS3
                            have HO := Lib.hid (show SymOk T w0 g c a b d w (.returned (.tuple #[])) w8 from by
                              obtain ⟨t1, t2⟩ := sym_fin hb ⟨b1, b2, b3, b4⟩ HP1.out HM.out.1 HM.out.2.1 HM.out.2.2.1 HM.out.2.2.2.1 HM.out.2.2.2.2 HD2.out (.inl ⟨HP3.out, HS3.out⟩)
                              exact ⟨rfl, by omega, d3, HL3.out, t1, t2⟩)
                            go_wp2_with fail
                            go_end0
                            exact HO.out
                      · by_cases hx5 : mid < en
                        · first
                            | (exfalso; have hq := HEN.out; omega)
                            | skip
                              have j5 : (mid : Int) < (en : Int) := by omega
                              have j6 : ¬ (en : Int) < (b : Int) := by omega
                              have HO := Lib.hid (show SymOk T w0 g c a b d w (.returned (.tuple #[])) w7 from by
                                obtain ⟨t1, t2⟩ := sym_fin hb ⟨b1, b2, b3, b4⟩ HP1.out HM.out.1 HM.out.2.1 HM.out.2.2.1 HM.out.2.2.2.1 HM.out.2.2.2.2 HD2.out (.inr ⟨hC3, rfl⟩)
                                exact ⟨rfl, by omega, d2, HL2.out, t1, t2⟩)
                              go_wp2_with fail
                              go_end0
                              exact HO.out
                        · first
                            | (exfalso; have hq := HEN.out; omega)
                            | skip
                              have j5 : ¬ (mid : Int) < (en : Int) := by omega
                              have HO := Lib.hid (show SymOk T w0 g c a b d w (.returned (.tuple #[])) w7 from by
                                obtain ⟨t1, t2⟩ := sym_fin hb ⟨b1, b2, b3, b4⟩ HP1.out HM.out.1 HM.out.2.1 HM.out.2.2.1 HM.out.2.2.2.1 HM.out.2.2.2.2 HD2.out (.inr ⟨hC3, rfl⟩)
                                exact ⟨rfl, by omega, d2, HL2.out, t1, t2⟩)
                              go_wp2_with fail
                              go_end0
                              exact HO.out
                · by_cases hx3 : a < s
                  · first
                      | (exfalso; have hq := HEN.out; omega)
                      | skip
                        have j3 : (a : Int) < (s : Int) := by omega
                        have j4 : ¬ (s : Int) < (mid : Int) := by omega
                        obtain ⟨d2, hd2⟩ : ∃ d2, d2 = d1 := ⟨_, rfl⟩
                        have HD2 := Lib.hid (show (PermIn a mid d1 d2 ∧ SortedIn ltQ a mid d2) ∨ (¬ (a < s ∧ s < mid) ∧ d2 = d1) from .inr ⟨hC2, hd2⟩)
                        have HZ2 := Lib.hid (show d2.size = d.size by rw [hd2]; exact HP1.out.1)
                        have HC2 := Lib.hid (show SortedIn ltQ mid en d2 by rw [hd2]; exact HM.out.2.2.1)
                        have HE2 := Lib.hid (show SortedIn ltQ en b d2 by rw [hd2]; exact HM.out.2.2.2.1)
                        have HL2 := Lib.hid (show LotN T w0 wr g c d2 by rw [hd2]; exact HL1.out)
                        clear hd2
                        have hd2s : d2.size = d.size := HZ2.out
                        by_cases hC3 : mid < en ∧ en < b
                        · first
                            | (exfalso; have hq := HEN.out; omega)
                            | skip
                              have j5 : (mid : Int) < (en : Int) := by omega
                              have j6 : (en : Int) < (b : Int) := by omega
                              go_wp2_with fail
                              refine (HIH.out mid en b _ _ _ _ d2 _ rfl rfl rfl hd2s.symm (by omega) HL2.out (by omega) (by omega) (by omega) HC2.out HE2.out).mono ?_
                              rintro e8 w8 ⟨rfl, hsz8, d3, hL3, hP3, hS3⟩
                              have HL3 := Lib.hid hL3
                              have HP3 := Lib.hid hP3
                              have HS3 := Lib.hid hS3
                              clear hL3 hP3 hS3
                              have HO := Lib.hid (show SymOk T w0 g c a b d w (.returned (.tuple #[])) w8 from by
                                obtain ⟨t1, t2⟩ := sym_fin hb ⟨b1, b2, b3, b4⟩ HP1.out HM.out.1 HM.out.2.1 HM.out.2.2.1 HM.out.2.2.2.1 HM.out.2.2.2.2 HD2.out (.inl ⟨HP3.out, HS3.out⟩)
                                exact ⟨rfl, by omega, d3, HL3.out, t1, t2⟩)
                              go_wp2_with fail
                              go_end0
                              exact HO.out
                        · by_cases hx5 : mid < en
                          · first
                              | (exfalso; have hq := HEN.out; omega)
                              | skip
                                have j5 : (mid : Int) < (en : Int) := by omega
                                have j6 : ¬ (en : Int) < (b : Int) := by omega
                                have HO := Lib.hid (show SymOk T w0 g c a b d w (.returned (.tuple #[])) wr from by
                                  obtain ⟨t1, t2⟩ := sym_fin hb ⟨b1, b2, b3, b4⟩ HP1.out HM.out.1 HM.out.2.1 HM.out.2.2.1 HM.out.2.2.2.1 HM.out.2.2.2.2 HD2.out (.inr ⟨hC3, rfl⟩)
                                  exact ⟨rfl, by omega, d2, HL2.out, t1, t2⟩)
                                go_wp2_with fail
                                go_end0
                                exact HO.out
                          · first
                              | (exfalso; have hq := HEN.out; omega)
                              | skip
                                have j5 : ¬ (mid : Int) < (en : Int) := by omega
                                have HO := Lib.hid (show SymOk T w0 g c a b d w (.returned (.tuple #[])) wr from by
                                  obtain ⟨t1, t2⟩ := sym_fin hb ⟨b1, b2, b3, b4⟩ HP1.out HM.out.1 HM.out.2.1 HM.out.2.2.1 HM.out.2.2.2.1 HM.out.2.2.2.2 HD2.out (.inr ⟨hC3, rfl⟩)
                                  exact ⟨rfl, by omega, d2, HL2.out, t1, t2⟩)
                                go_wp2_with fail
                                go_end0
                                exact HO.out
                  · first
                      | (exfalso; have hq := HEN.out; omega)
                      | skip
                        have j3 : ¬ (a : Int) < (s : Int) := by omega
                        obtain ⟨d2, hd2⟩ : ∃ d2, d2 = d1 := ⟨_, rfl⟩
                        have HD2 := Lib.hid (show (PermIn a mid d1 d2 ∧ SortedIn ltQ a mid d2) ∨ (¬ (a < s ∧ s < mid) ∧ d2 = d1) from .inr ⟨hC2, hd2⟩)
                        have HZ2 := Lib.hid (show d2.size = d.size by rw [hd2]; exact HP1.out.1)
                        have HC2 := Lib.hid (show SortedIn ltQ mid en d2 by rw [hd2]; exact HM.out.2.2.1)
                        have HE2 := Lib.hid (show SortedIn ltQ en b d2 by rw [hd2]; exact HM.out.2.2.2.1)
                        have HL2 := Lib.hid (show LotN T w0 wr g c d2 by rw [hd2]; exact HL1.out)
                        clear hd2
                        have hd2s : d2.size = d.size := HZ2.out
                        by_cases hC3 : mid < en ∧ en < b
                        · first
                            | (exfalso; have hq := HEN.out; omega)
                            | skip
                              have j5 : (mid : Int) < (en : Int) := by omega
                              have j6 : (en : Int) < (b : Int) := by omega
                              go_wp2_with fail
                              refine (HIH.out mid en b _ _ _ _ d2 _ rfl rfl rfl hd2s.symm (by omega) HL2.out (by omega) (by omega) (by omega) HC2.out HE2.out).mono ?_
                              rintro e8 w8 ⟨rfl, hsz8, d3, hL3, hP3, hS3⟩
                              have HL3 := Lib.hid hL3
                              have HP3 := Lib.hid hP3
                              have HS3 := Lib.hid hS3
                              clear hL3 hP3 hS3
                              have HO := Lib.hid (show SymOk T w0 g c a b d w (.returned (.tuple #[])) w8 from by
                                obtain ⟨t1, t2⟩ := sym_fin hb ⟨b1, b2, b3, b4⟩ HP1.out HM.out.1 HM.out.2.1 HM.out.2.2.1 HM.out.2.2.2.1 HM.out.2.2.2.2 HD2.out (.inl ⟨HP3.out, HS3.out⟩)
                                exact ⟨rfl, by omega, d3, HL3.out, t1, t2⟩)
                              go_wp2_with fail
                              go_end0
                              exact HO.out
                        · by_cases hx5 : mid < en
                          · first
                              | (exfalso; have hq := HEN.out; omega)
                              | skip
                                have j5 : (mid : Int) < (en : Int) := by omega
                                have j6 : ¬ (en : Int) < (b : Int) := by omega
                                have HO := Lib.hid (show SymOk T w0 g c a b d w (.returned (.tuple #[])) wr from by
                                  obtain ⟨t1, t2⟩ := sym_fin hb ⟨b1, b2, b3, b4⟩ HP1.out HM.out.1 HM.out.2.1 HM.out.2.2.1 HM.out.2.2.2.1 HM.out.2.2.2.2 HD2.out (.inr ⟨hC3, rfl⟩)
                                  exact ⟨rfl, by omega, d2, HL2.out, t1, t2⟩)
                                go_wp2_with fail
                                go_end0
                                exact HO.out
                          · first
                              | (exfalso; have hq := HEN.out; omega)
                              | skip
                                have j5 : ¬ (mid : Int) < (en : Int) := by omega
                                have HO := Lib.hid (show SymOk T w0 g c a b d w (.returned (.tuple #[])) wr from by
                                  obtain ⟨t1, t2⟩ := sym_fin hb ⟨b1, b2, b3, b4⟩ HP1.out HM.out.1 HM.out.2.1 HM.out.2.2.1 HM.out.2.2.2.1 HM.out.2.2.2.2 HD2.out (.inr ⟨hC3, rfl⟩)
                                  exact ⟨rfl, by omega, d2, HL2.out, t1, t2⟩)
                                go_wp2_with fail
                                go_end0
                                exact HO.out
          · first
              | (exfalso; have hq := HEN.out; omega)
              | skip
                have j1 : ¬ (s : Int) < (m : Int) := by omega
                have hd1s : d1.size = d.size := HP1.out.1
                by_cases hC2 : a < s ∧ s < mid
                · first
                    | (exfalso; have hq := HEN.out; omega)
                    | skip
                      have j3 : (a : Int) < (s : Int) := by omega
                      have j4 : (s : Int) < (mid : Int) := by omega
                      go_wp2_with fail
                      refine (HIH.out a s mid _ _ _ _ d1 _ rfl rfl rfl hd1s.symm (by omega) HL1.out (by omega) (by omega) (by omega) HM.out.1 HM.out.2.1).mono ?_
                      rintro e7 w7 ⟨rfl, hsz7, d2, hL2, hP2, hS2⟩
                      have HL2 := Lib.hid hL2
                      have HP2 := Lib.hid hP2
                      have HS2' := Lib.hid hS2
                      clear hL2 hP2 hS2
                      have HD2 := Lib.hid (show (PermIn a mid d1 d2 ∧ SortedIn ltQ a mid d2) ∨ (¬ (a < s ∧ s < mid) ∧ d2 = d1) from .inl ⟨HP2.out, HS2'.out⟩)
                      have HZ2 := Lib.hid (show d2.size = d.size from HP2.out.1.trans HP1.out.1)
                      have HC2 := Lib.hid (show SortedIn ltQ mid en d2 from sorted_far HM.out.2.2.1 HP2.out (.inr (Nat.le_refl _)))
                      have HE2 := Lib.hid (show SortedIn ltQ en b d2 from sorted_far HM.out.2.2.2.1 HP2.out (.inr b3))
                      have hd2s : d2.size = d.size := HZ2.out
                      by_cases hC3 : mid < en ∧ en < b
                      · first
                          | (exfalso; have hq := HEN.out; omega)
                          | skip
                            have j5 : (mid : Int) < (en : Int) := by omega
                            have j6 : (en : Int) < (b : Int) := by omega
                            go_wp2_with fail
                            refine (HIH.out mid en b _ _ _ _ d2 _ rfl rfl rfl hd2s.symm (by omega) HL2.out (by omega) (by omega) (by omega) HC2.out HE2.out).mono ?_
                            rintro e8 w8 ⟨rfl, hsz8, d3, hL3, hP3, hS3⟩
                            have HL3 := Lib.hid hL3
                            have HP3 := Lib.hid hP3
                            have HS3 := Lib.hid hS3
                            clear hL3 hP3 hS3
                            have HO := Lib.hid (show SymOk T w0 g c a b d w (.returned (.tuple #[])) w8 from by
                              obtain ⟨t1, t2⟩ := sym_fin hb ⟨b1, b2, b3, b4⟩ HP1.out HM.out.1 HM.out.2.1 HM.out.2.2.1 HM.out.2.2.2.1 HM.out.2.2.2.2 HD2.out (.inl ⟨HP3.out, HS3.out⟩)
                              exact ⟨rfl, by omega, d3, HL3.out, t1, t2⟩)
                            go_wp2_with fail
                            go_end0
                            exact HO.out
                      · by_cases hx5 : mid < en
                        · first
                            | (exfalso; have hq := HEN.out; omega)
                            | skip
                              have j5 : (mid : Int) < (en : Int) := by omega
                              have j6 : ¬ (en : Int) < (b : Int) := by omega
                              have HO := Lib.hid (show SymOk T w0 g c a b d w (.returned (.tuple #[])) w7 from by
                                obtain ⟨t1, t2⟩ := sym_fin hb ⟨b1, b2, b3, b4⟩ HP1.out HM.out.1 HM.out.2.1 HM.out.2.2.1 HM.out.2.2.2.1 HM.out.2.2.2.2 HD2.out (.inr ⟨hC3, rfl⟩)
                                exact ⟨rfl, by omega, d2, HL2.out, t1, t2⟩)
                              go_wp2_with fail
                              go_end0
                              exact HO.out
                        · first
                            | (exfalso; have hq := HEN.out; omega)
                            | skip
                              have j5 : ¬ (mid : Int) < (en : Int) := by omega
                              have HO := Lib.hid (show SymOk T w0 g c a b d w (.returned (.tuple #[])) w7 from by
                                obtain ⟨t1, t2⟩ := sym_fin hb ⟨b1, b2, b3, b4⟩ HP1.out HM.out.1 HM.out.2.1 HM.out.2.2.1 HM.out.2.2.2.1 HM.out.2.2.2.2 HD2.out (.inr ⟨hC3, rfl⟩)
                                exact ⟨rfl, by omega, d2, HL2.out, t1, t2⟩)
                              go_wp2_with fail
                              go_end0
                              exact HO.out
                · by_cases hx3 : a < s
                  · first
                      | (exfalso; have hq := HEN.out; omega)
                      | skip
                        have j3 : (a : Int) < (s : Int) := by omega
                        have j4 : ¬ (s : Int) < (mid : Int) := by omega
                        obtain ⟨d2, hd2⟩ : ∃ d2, d2 = d1 := ⟨_, rfl⟩
                        have HD2 := Lib.hid (show (PermIn a mid d1 d2 ∧ SortedIn ltQ a mid d2) ∨ (¬ (a < s ∧ s < mid) ∧ d2 = d1) from .inr ⟨hC2, hd2⟩)
                        have HZ2 := Lib.hid (show d2.size = d.size by rw [hd2]; exact HP1.out.1)
                        have HC2 := Lib.hid (show SortedIn ltQ mid en d2 by rw [hd2]; exact HM.out.2.2.1)
                        have HE2 := Lib.hid (show SortedIn ltQ en b d2 by rw [hd2]; exact HM.out.2.2.2.1)
                        have HL2 := Lib.hid (show LotN T w0 wr g c d2 by rw [hd2]; exact HL1.out)
                        clear hd2
                        have hd2s : d2.size = d.size := HZ2.out
                        by_cases hC3 : mid < en ∧ en < b
                        · first
                            | (exfalso; have hq := HEN.out; omega)
                            | skip
                              have j5 : (mid : Int) < (en : Int) := by omega
                              have j6 : (en : Int) < (b : Int) := by omega
                              go_wp2_with fail
                              refine (HIH.out mid en b _ _ _ _ d2 _ rfl rfl rfl hd2s.symm (by omega) HL2.out (by omega) (by omega) (by omega) HC2.out HE2.out).mono ?_
                              rintro e8 w8 ⟨rfl, hsz8, d3, hL3, hP3, hS3⟩
                              have HL3 := Lib.hid hL3
                              have HP3 := Lib.hid hP3
                              have HS3 := Lib.hid hS3
                              clear hL3 hP3 hS3
                              have HO := Lib.hid (show SymOk T w0 g c a b d w (.returned (.tuple #[])) w8 from by
                                obtain ⟨t1, t2⟩ := sym_fin hb ⟨b1, b2, b3, b4⟩ HP1.out HM.out.1 HM.out.2.1 HM.out.2.2.1 HM.out.2.2.2.1 HM.out.2.2.2.2 HD2.out (.inl ⟨HP3.out, HS3.out⟩)
                                exact ⟨rfl, by omega, d3, HL3.out, t1, t2⟩)
                              go_wp2_with fail
                              go_end0
                              exact HO.out
                        · by_cases hx5 : mid < en
                          · first
                              | (exfalso; have hq := HEN.out; omega)
                              | skip
                                have j5 : (mid : Int) < (en : Int) := by omega
                                have j6 : ¬ (en : Int) < (b : Int) := by omega
                                have HO := Lib.hid (show SymOk T w0 g c a b d w (.returned (.tuple #[])) wr from by
                                  obtain ⟨t1, t2⟩ := sym_fin hb ⟨b1, b2, b3, b4⟩ HP1.out HM.out.1 HM.out.2.1 HM.out.2.2.1 HM.out.2.2.2.1 HM.out.2.2.2.2 HD2.out (.inr ⟨hC3, rfl⟩)
                                  exact ⟨rfl, by omega, d2, HL2.out, t1, t2⟩)
                                go_wp2_with fail
                                go_end0
                                exact HO.out
                          · first
                              | (exfalso; have hq := HEN.out; omega)
                              | skip
                                have j5 : ¬ (mid : Int) < (en : Int) := by omega
                                have HO := Lib.hid (show SymOk T w0 g c a b d w (.returned (.tuple #[])) wr from by
                                  obtain ⟨t1, t2⟩ := sym_fin hb ⟨b1, b2, b3, b4⟩ HP1.out HM.out.1 HM.out.2.1 HM.out.2.2.1 HM.out.2.2.2.1 HM.out.2.2.2.2 HD2.out (.inr ⟨hC3, rfl⟩)
                                  exact ⟨rfl, by omega, d2, HL2.out, t1, t2⟩)
                                go_wp2_with fail
                                go_end0
                                exact HO.out
                  · first
                      | (exfalso; have hq := HEN.out; omega)
                      | skip
                        have j3 : ¬ (a : Int) < (s : Int) := by omega
                        obtain ⟨d2, hd2⟩ : ∃ d2, d2 = d1 := ⟨_, rfl⟩
                        have HD2 := Lib.hid (show (PermIn a mid d1 d2 ∧ SortedIn ltQ a mid d2) ∨ (¬ (a < s ∧ s < mid) ∧ d2 = d1) from .inr ⟨hC2, hd2⟩)
                        have HZ2 := Lib.hid (show d2.size = d.size by rw [hd2]; exact HP1.out.1)
                        have HC2 := Lib.hid (show SortedIn ltQ mid en d2 by rw [hd2]; exact HM.out.2.2.1)
                        have HE2 := Lib.hid (show SortedIn ltQ en b d2 by rw [hd2]; exact HM.out.2.2.2.1)
                        have HL2 := Lib.hid (show LotN T w0 wr g c d2 by rw [hd2]; exact HL1.out)
                        clear hd2
                        have hd2s : d2.size = d.size := HZ2.out
                        by_cases hC3 : mid < en ∧ en < b
                        · first
                            | (exfalso; have hq := HEN.out; omega)
                            | skip
                              have j5 : (mid : Int) < (en : Int) := by omega
                              have j6 : (en : Int) < (b : Int) := by omega
                              go_wp2_with fail
                              refine (HIH.out mid en b _ _ _ _ d2 _ rfl rfl rfl hd2s.symm (by omega) HL2.out (by omega) (by omega) (by omega) HC2.out HE2.out).mono ?_
                              rintro e8 w8 ⟨rfl, hsz8, d3, hL3, hP3, hS3⟩
                              have HL3 := Lib.hid hL3
                              have HP3 := Lib.hid hP3
                              have HS3 := Lib.hid hS3
                              clear hL3 hP3 hS3
                              have HO := Lib.hid (show SymOk T w0 g c a b d w (.returned (.tuple #[])) w8 from by
                                obtain ⟨t1, t2⟩ := sym_fin hb ⟨b1, b2, b3, b4⟩ HP1.out HM.out.1 HM.out.2.1 HM.out.2.2.1 HM.out.2.2.2.1 HM.out.2.2.2.2 HD2.out (.inl ⟨HP3.out, HS3.out⟩)
                                exact ⟨rfl, by omega, d3, HL3.out, t1, t2⟩)
                              go_wp2_with fail
                              go_end0
                              exact HO.out
                        · by_cases hx5 : mid < en
                          · first
                              | (exfalso; have hq := HEN.out; omega)
                              | skip
                                have j5 : (mid : Int) < (en : Int) := by omega
                                have j6 : ¬ (en : Int) < (b : Int) := by omega
                                have HO := Lib.hid (show SymOk T w0 g c a b d w (.returned (.tuple #[])) wr from by
                                  obtain ⟨t1, t2⟩ := sym_fin hb ⟨b1, b2, b3, b4⟩ HP1.out HM.out.1 HM.out.2.1 HM.out.2.2.1 HM.out.2.2.2.1 HM.out.2.2.2.2 HD2.out (.inr ⟨hC3, rfl⟩)
                                  exact ⟨rfl, by omega, d2, HL2.out, t1, t2⟩)
                                go_wp2_with fail
                                go_end0
                                exact HO.out
                          · first
                              | (exfalso; have hq := HEN.out; omega)
                              | skip
                                have j5 : ¬ (mid : Int) < (en : Int) := by omega
                                have HO := Lib.hid (show SymOk T w0 g c a b d w (.returned (.tuple #[])) wr from by
                                  obtain ⟨t1, t2⟩ := sym_fin hb ⟨b1, b2, b3, b4⟩ HP1.out HM.out.1 HM.out.2.1 HM.out.2.2.1 HM.out.2.2.2.1 HM.out.2.2.2.2 HD2.out (.inr ⟨hC3, rfl⟩)
                                  exact ⟨rfl, by omega, d2, HL2.out, t1, t2⟩)
                                go_wp2_with fail
                                go_end0
                                exact HO.out

theorem sym_any (hC : CmpN T) (w0 : World) (g c : Nat) : ∀ sz, SymIH T w0 g c sz
  | 0 => fun a m b A M B n d w _ _ _ _ hz _ h1 h2 _ _ _ => by omega
  | sz + 1 => fun a m b A M B n d w hA hM hB hn hz h ham hmb hb hs1 hs2 => by
    subst hA hM hB hn
    by_cases e1 : m = a + 1
    · exact sym_left hC w0 w g c a m b d h e1 hmb hb (e1 ▸ hs2)
    · by_cases e2 : b = m + 1
      · exact sym_right hC w0 w g c a m b d h (by omega) e2 hb hs1
      · exact sym_gen hC w0 w g c sz a m b (sym_any hC w0 g c sz) d h (by omega) (by omega) hb hs1 hs2 hz

end Go.Proofs.YtfibjcaidnofmaaGreatDoor

