/- Comparisons, both sides. Printed by gen_same2.py. -/
import Derived.Test.YtgnmollbnopigaaGreatJoinSSBe
import Derived.Test.YtgnmollbnopigaaGreatJoinSSBh
namespace Go.Proofs.YtgnmollbnopigaaGreat
open Go.RowKit
set_option maxHeartbeats 4000000 in
set_option maxRecDepth 100000 in
theorem sSameTriggers : SmR 229 shTrigger 55 := by
 intro A B c d xs ys lo hi lo' hi' w h h' hhi hhi' hf hf'
 obtain ⟨ANS, hANS⟩ : ∃ b, b = sameB xs ys := ⟨_, rfl⟩
 rw [← hANS]
 have HANS := Lib.hid hANS; clear hANS
 have hn := hf.1
 by_cases hl : xs.length = ys.length
 ·have HA := Lib.hid h; have HA' := Lib.hid h'; have HL := Lib.hid hl; have HF := Lib.hid hf.2; have HF' := Lib.hid hf'.2
  rw [← hl] at HA' ⊢
  clear h h' hl hf hf'
  go_enter Tryz.func55, Tryz.ntmps55
  (try dsimp only [List.append])
  go_wp2_with fail
  go_loopw [5] (fun i wr => ∃ k : Nat, k ≤ xs.length ∧ i = .int .i64 k ∧ Hid (xs.take k = ys.take k) ∧ Below w.heap.size w wr) (fun i _ => xs.length - (intOf i).toNat)
  case atStart => exact ⟨0, Nat.zero_le _, rfl, Lib.hid rfl, Below.refl _ _⟩
  case round =>
   obtain ⟨k, hk, rfl, htk, hb⟩ := hrel
   by_cases hlt : k < xs.length
   ·have hly : k < ys.length := by have := HL.out; omega
    obtain ⟨b, off, rfl, hb1, hb2, us, hc, hX⟩ := row_at ((Sh.row 229 shTrigger).R_below HA.out hb hhi) hlt
    obtain ⟨b', off', rfl, hb1', hb2', us', hc', hX'⟩ := row_at ((Sh.row 229 shTrigger).R_below HA'.out hb hhi') hlt
    have HST := Lib.hid (fun he => take_step (d := shTrigger.d) htk.out hlt HL.out he)
    have HNE := Lib.hid (fun he => ne_at (xs := xs) (ys := ys) (d := shTrigger.d) (k := k) he)
    have HX := Lib.hid (HF.out _ (getD_in (d := shTrigger.d) hlt)); have HX' := Lib.hid (HF'.out _ (getD_in (d := shTrigger.d) hly))
    generalize xs.getD k shTrigger.d = X at *
    generalize ys.getD k shTrigger.d = Y at *
    have hsz := hb.size
    have hlu := shTrigger.R_len hX; have hlu' := shTrigger.R_len hX'
    obtain ⟨HC, HZ, HS, HO⟩ := elF (P := Tryz.prog) sizeITrigger hc hX
    obtain ⟨HC', HZ', HS', HO'⟩ := elF (P := Tryz.prog) sizeITrigger hc' hX'
    have HT := Lib.hid (there_blk (n := us.toArray.size) (o := 0) (Blk.new wr 229 zz5) (by rw [List.size_toArray, hlu]; exact Nat.le_refl _))
    have HR := Lib.hid hX; have HR' := Lib.hid hX'; have HB := Lib.hid hb
    obtain ⟨hbl, hr1, hz5⟩ := cpyF HT.out
    have HBL := Lib.hid hbl; have HR1 := Lib.hid hr1
    clear hb hX hX' hc hc' htk hbl hr1
    go_upto_region 7 with (first | fail | (refine wlg b (off + k * 7) us HC.out Tryz.underlying229 HZ.out ?_) | (refine wpList_store_mid rfl _ _ _ rfl wr.heap.size 0 us.toArray rfl rfl HT.out HS.out HO.out ?_))
    clear HT HS HO
    generalize (wr.alloc (.cells zz5 229)).setCells wr.heap.size 0 us = w5 at *
    have HC5 := Lib.hid (rng_below HC'.out HBL.out (by omega))
    have HT := Lib.hid (there_blk (n := us'.toArray.size) (o := 0) (Blk.new w5 229 zz5) (by rw [List.size_toArray, hlu']; exact Nat.le_refl _))
    have hbl : Below w5.heap.size w5 ((w5.alloc (.cells zz5 229)).setCells w5.heap.size 0 us') := ((Below.refl _ _).alloc (Nat.le_refl _) _).trans ((setCells_out w5.heap.size us' 0 (w5.alloc (.cells zz5 229))).1.below1 (Nat.le_refl _) (by simp))
    have hr2 : ((w5.alloc (.cells zz5 229)).setCells w5.heap.size 0 us').rangeAt w5.heap.size 0 us' := World.rangeAt_setCells_same _ _ _ _ (by simpa using HT.out)
    have HBM := Lib.hid hbl; have HR2 := Lib.hid hr2; have HQ1 := Lib.hid (rng_below HR1.out hbl (by omega))
    have hz6 : w5.heap.size + 1 ≤ ((w5.alloc (.cells zz5 229)).setCells w5.heap.size 0 us').heap.size := by rw [(setCells_out _ _ _ _).2]; simp
    clear hbl hr2 HC HR1
    go_upto_region 8 with (first | fail | (refine wlg b' (off' + k * 7) us' HC5.out Tryz.underlying229 HZ'.out ?_) | (refine wpList_store_mid rfl _ _ _ rfl w5.heap.size 0 us'.toArray rfl rfl HT.out HS'.out HO'.out ?_))
    clear HT HS' HO' HC5 HC'
    have HBB := Lib.hid (HBL.out.trans (HBM.out.mono (by omega)))
    generalize (w5.alloc (.cells zz5 229)).setCells w5.heap.size 0 us' = w6 at *
    have hs6 := HBB.out.size
    have HD := Lib.hid (HB.out.trans (HBB.out.mono hsz))
    have hRX := shTrigger.R_below HR.out HBB.out (by omega); have hRY := shTrigger.R_below HR'.out HBB.out (by omega)
    clear HR HR' HBL HBM HBB HB HZ HZ' hlu hlu'
    obtain ⟨p0, p1, p2, p3, p4, p5, p6⟩ := X
    obtain ⟨q0, q1, q2, q3, q4, q5, q6⟩ := Y
    have hFX := HX.out; have hFY := HX'.out
    obtain ⟨fe0, fe1, fe2, fe3, fe4, fe5, fe6⟩ := hFX
    obtain ⟨ge0, ge1, ge2, ge3, ge4, ge5, ge6⟩ := hFY
    clear HX HX'
    obtain ⟨s0, rs0, es0, k0, s1, rs1, es1, k1, s2, rs2, es2, k2, s3, rs3, es3, k3, s4, rs4, es4, k4, s5, rs5, es5, k5, k6⟩ := hRX
    generalize rs5 = s6 at *
    obtain rfl := (show s0 = [.int .i64 p0] from k0)
    obtain rfl := (show s1 = [.string p1] from k1)
    have qk2 := k2; obtain ⟨M2, m2, rfl, _⟩ := qk2
    obtain rfl := (show s3 = [.bool p3] from k3)
    obtain rfl := (show s4 = [.bool p4] from k4)
    obtain rfl := (show s5 = [.string p5] from k5)
    obtain rfl := (show s6 = [.string p6] from k6)
    have HE := Lib.hid (show ∀ (W : World) (b : Nat), W.rangeAt b 0 us → W.cell? ⟨b, 0, none⟩ = some (.int .i64 p0) ∧ W.cell? ⟨b, 1, none⟩ = some (.string p1) ∧ W.cell? ⟨b, 2, none⟩ = some (.slice M2 p2.length m2) ∧ W.cell? ⟨b, 3, none⟩ = some (.bool p3) ∧ W.cell? ⟨b, 4, none⟩ = some (.bool p4) ∧ W.cell? ⟨b, 5, none⟩ = some (.string p5) ∧ W.cell? ⟨b, 6, none⟩ = some (.string p6) from fun W b hB => by
     have q := hB
     obtain ⟨p0, q⟩ := rsp es0 rfl q
     obtain ⟨p1, q⟩ := rsp es1 rfl q
     obtain ⟨p2, q⟩ := rsp es2 rfl q
     obtain ⟨p3, q⟩ := rsp es3 rfl q
     obtain ⟨p4, q⟩ := rsp es4 rfl q
     obtain ⟨p5, q⟩ := rsp es5 rfl q
     exact ⟨rng_one p0, rng_one p1, rng_one p2, rng_one p3, rng_one p4, rng_one p5, rng_one q⟩)
    clear es0 es1 es2 es3 es4 es5
    obtain ⟨t0, rt0, et0, l0, t1, rt1, et1, l1, t2, rt2, et2, l2, t3, rt3, et3, l3, t4, rt4, et4, l4, t5, rt5, et5, l5, l6⟩ := hRY
    generalize rt5 = t6 at *
    obtain rfl := (show t0 = [.int .i64 q0] from l0)
    obtain rfl := (show t1 = [.string q1] from l1)
    have ql2 := l2; obtain ⟨N2, n2, rfl, _⟩ := ql2
    obtain rfl := (show t3 = [.bool q3] from l3)
    obtain rfl := (show t4 = [.bool q4] from l4)
    obtain rfl := (show t5 = [.string q5] from l5)
    obtain rfl := (show t6 = [.string q6] from l6)
    have HJ := Lib.hid (show ∀ (W : World) (b : Nat), W.rangeAt b 0 us' → W.cell? ⟨b, 0, none⟩ = some (.int .i64 q0) ∧ W.cell? ⟨b, 1, none⟩ = some (.string q1) ∧ W.cell? ⟨b, 2, none⟩ = some (.slice N2 q2.length n2) ∧ W.cell? ⟨b, 3, none⟩ = some (.bool q3) ∧ W.cell? ⟨b, 4, none⟩ = some (.bool q4) ∧ W.cell? ⟨b, 5, none⟩ = some (.string q5) ∧ W.cell? ⟨b, 6, none⟩ = some (.string q6) from fun W b hB => by
     have q := hB
     obtain ⟨p0, q⟩ := rsp et0 rfl q
     obtain ⟨p1, q⟩ := rsp et1 rfl q
     obtain ⟨p2, q⟩ := rsp et2 rfl q
     obtain ⟨p3, q⟩ := rsp et3 rfl q
     obtain ⟨p4, q⟩ := rsp et4 rfl q
     obtain ⟨p5, q⟩ := rsp et5 rfl q
     exact ⟨rng_one p0, rng_one p1, rng_one p2, rng_one p3, rng_one p4, rng_one p5, rng_one q⟩)
    clear et0 et1 et2 et3 et4 et5
    have f0 := (HE.out _ _ HQ1.out).1; have g0 := (HJ.out _ _ HR2.out).1
    have f1 := (HE.out _ _ HQ1.out).2.1; have g1 := (HJ.out _ _ HR2.out).2.1
    have f2 := (HE.out _ _ HQ1.out).2.2.1; have g2 := (HJ.out _ _ HR2.out).2.2.1
    have f3 := (HE.out _ _ HQ1.out).2.2.2.1; have g3 := (HJ.out _ _ HR2.out).2.2.2.1
    have f4 := (HE.out _ _ HQ1.out).2.2.2.2.1; have g4 := (HJ.out _ _ HR2.out).2.2.2.2.1
    have f5 := (HE.out _ _ HQ1.out).2.2.2.2.2.1; have g5 := (HJ.out _ _ HR2.out).2.2.2.2.2.1
    have f6 := (HE.out _ _ HQ1.out).2.2.2.2.2.2; have g6 := (HJ.out _ _ HR2.out).2.2.2.2.2.2
    by_cases hne : p0 = q0
    rotate_left
    ·have HFF := Lib.hid (HANS.out.trans (same_f (HNE.out (fun e => hne (congrArg (fun X : TyTrigger => X.1) e)))))
     have hq : (p0 == q0) = false := beq_eq_false_iff_ne.2 hne
     have hq2 : (p0 != q0) = true := by simp [hq, bne]
     clear hne HST HNE
     go_wp2_with fail
     go_ret
     exact ⟨by rw [HFF.out]; rfl, HD.out⟩
    subst hne
    by_cases hne : p1 = q1
    rotate_left
    ·have HFF := Lib.hid (HANS.out.trans (same_f (HNE.out (fun e => hne (congrArg (fun X : TyTrigger => X.2.1) e)))))
     have hq : (p1.toList == q1.toList) = false := str_ne hne
     have hq2 : (!(p1.toList == q1.toList)) = true := by simp [hq]
     clear hne HST HNE
     go_wp2_with fail
     go_ret
     exact ⟨by rw [HFF.out]; rfl, HD.out⟩
    subst hne
    go_wp2_with fail
    refine (l24Texts_r M2 N2 m2 n2 p2 q2 lo hi lo' hi' w6 k2 l2 (by omega) (by omega) fe2.1 ge2.1).mono ?_
    rintro e7 w7 ⟨rfl, hb7⟩
    have HD7 := Lib.hid (HD.out.trans (hb7.mono (by omega)))
    have HQ7 := Lib.hid (rng_below HQ1.out hb7 (by omega)); have HR7 := Lib.hid (rng_below HR2.out hb7 (by omega))
    clear hb7 HQ1 HR2 f0 g0 f1 g1 f2 g2 f3 g3 f4 g4 f5 g5 f6 g6
    have HQ1 := HQ7; have HR2 := HR7; clear HQ7 HR7
    by_cases hne : p2 = q2
    rotate_left
    ·rw [same_f hne]
     have HFF := Lib.hid (HANS.out.trans (same_f (HNE.out (fun e => hne (congrArg (fun X : TyTrigger => X.2.2.1) e)))))
     clear hne HST HNE
     go_wp2_with fail
     go_ret
     exact ⟨by rw [HFF.out]; rfl, HD7.out⟩
    rw [same_t hne]
    subst hne
    have f3 := (HE.out _ _ HQ1.out).2.2.2.1; have g3 := (HJ.out _ _ HR2.out).2.2.2.1
    have f4 := (HE.out _ _ HQ1.out).2.2.2.2.1; have g4 := (HJ.out _ _ HR2.out).2.2.2.2.1
    have f5 := (HE.out _ _ HQ1.out).2.2.2.2.2.1; have g5 := (HJ.out _ _ HR2.out).2.2.2.2.2.1
    have f6 := (HE.out _ _ HQ1.out).2.2.2.2.2.2; have g6 := (HJ.out _ _ HR2.out).2.2.2.2.2.2
    by_cases hne : p3 = q3
    rotate_left
    ·have HFF := Lib.hid (HANS.out.trans (same_f (HNE.out (fun e => hne (congrArg (fun X : TyTrigger => X.2.2.2.1) e)))))
     have hq : (p3 == q3) = false := beq_eq_false_iff_ne.2 hne
     have hq2 : (p3 != q3) = true := by simp [hq, bne]
     have hq3 := hq; (try simp only [beq_eq_false_iff_ne, ne_eq] at hq3)
     clear hne HST HNE
     go_wp2_with fail
     go_ret
     exact ⟨by rw [HFF.out]; rfl, HD7.out⟩
    subst hne
    by_cases hne : p4 = q4
    rotate_left
    ·have HFF := Lib.hid (HANS.out.trans (same_f (HNE.out (fun e => hne (congrArg (fun X : TyTrigger => X.2.2.2.2.1) e)))))
     have hq : (p4 == q4) = false := beq_eq_false_iff_ne.2 hne
     have hq2 : (p4 != q4) = true := by simp [hq, bne]
     have hq3 := hq; (try simp only [beq_eq_false_iff_ne, ne_eq] at hq3)
     clear hne HST HNE
     go_wp2_with fail
     go_ret
     exact ⟨by rw [HFF.out]; rfl, HD7.out⟩
    subst hne
    by_cases hne : p5 = q5
    rotate_left
    ·have HFF := Lib.hid (HANS.out.trans (same_f (HNE.out (fun e => hne (congrArg (fun X : TyTrigger => X.2.2.2.2.2.1) e)))))
     have hq : (p5.toList == q5.toList) = false := str_ne hne
     have hq2 : (!(p5.toList == q5.toList)) = true := by simp [hq]
     clear hne HST HNE
     go_wp2_with fail
     go_ret
     exact ⟨by rw [HFF.out]; rfl, HD7.out⟩
    subst hne
    by_cases hne : p6 = q6
    rotate_left
    ·have HFF := Lib.hid (HANS.out.trans (same_f (HNE.out (fun e => hne (congrArg (fun X : TyTrigger => X.2.2.2.2.2.2) e)))))
     have hq : (p6.toList == q6.toList) = false := str_ne hne
     have hq2 : (!(p6.toList == q6.toList)) = true := by simp [hq]
     clear hne HST HNE
     go_wp2_with fail
     go_ret
     exact ⟨by rw [HFF.out]; rfl, HD7.out⟩
    subst hne
    have HS2 := Lib.hid (HST.out rfl)
    clear HST HNE
    go_wp2_with fail
    go_roundw
    case rel => exact ⟨k + 1, by omega, by go_num, HS2, HD7.out⟩
    case measure => simp [intOf]; omega
   ·obtain rfl : k = xs.length := by omega
    have HB := Lib.hid hb; have HT := Lib.hid (HANS.out.trans (same_t (take_all htk.out HL.out))); clear hb htk
    go_wp2_with fail
    go_ret
    exact ⟨by rw [HT.out]; rfl, HB.out⟩
 ·have HFF := Lib.hid (HANS.out.trans (same_f (ne_of_len hl)))
  have hm := hf'.1
  have n1 : ((xs.length : Int) == (ys.length : Int)) = false := by rw [beq_eq_false_iff_ne]; omega
  have n2 : ((xs.length : Int) != (ys.length : Int)) = true := by rw [bne_iff_ne]; omega
  clear hl h h' hf hf'
  go_enter Tryz.func55, Tryz.ntmps55
  (try dsimp only [List.append])
  go_wp2_with fail
  go_ret
  exact ⟨by rw [HFF.out]; rfl, Below.refl _ _⟩
end Go.Proofs.YtgnmollbnopigaaGreat
