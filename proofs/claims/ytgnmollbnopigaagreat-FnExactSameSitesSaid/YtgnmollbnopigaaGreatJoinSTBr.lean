/- Comparisons, both sides. Printed by gen_same2.py. -/
import Derived.Test.YtgnmollbnopigaaGreatJoinSTBn
set_option maxHeartbeats 16000000
set_option maxRecDepth 100000
namespace Go.Proofs.YtgnmollbnopigaaGreat
open Go.RowKit
theorem eqfJob : SmF 159 shJob 75 76 := by
 intro A B c d xs ys lo hi lo' hi' w h h' hhi hhi' hf hf'
 obtain ⟨ANS, hANS⟩ : ∃ b, b = sameB xs ys := ⟨_, rfl⟩
 rw [← hANS]
 have HANS := Lib.hid hANS; clear hANS
 have hn := hf.1
 by_cases hl : xs.length = ys.length
 ·have HA := Lib.hid h; have HA' := Lib.hid h'; have HL := Lib.hid hl; have HF := Lib.hid hf.2; have HF' := Lib.hid hf'.2
  rw [← hl] at HA' ⊢
  clear h h' hl hf hf'
  go_enter Tryz.func75, Tryz.ntmps75
  go_wp2_with fail
  go_loopw [17] (fun i wr => ∃ k : Nat, k ≤ xs.length ∧ i = .int .i64 k ∧ Hid (xs.take k = ys.take k) ∧ Below w.heap.size w wr) (fun i _ => xs.length - (intOf i).toNat)
  case atStart => exact ⟨0, Nat.zero_le _, rfl, Lib.hid rfl, Below.refl _ _⟩
  case round =>
   obtain ⟨k, hk, rfl, htk, hb⟩ := hrel
   by_cases hlt : k < xs.length
   ·have hly : k < ys.length := by have := HL.out; omega
    obtain ⟨b, off, rfl, hb1, hb2, us, hc, hX⟩ := row_at ((Sh.row 159 shJob).R_below HA.out hb hhi) hlt
    obtain ⟨b', off', rfl, hb1', hb2', us', hc', hX'⟩ := row_at ((Sh.row 159 shJob).R_below HA'.out hb hhi') hlt
    have HST := Lib.hid (fun he => take_step (d := shJob.d) htk.out hlt HL.out he)
    have HNE := Lib.hid (fun he => ne_at (xs := xs) (ys := ys) (d := shJob.d) (k := k) he)
    have HX := Lib.hid (HF.out _ (getD_in (d := shJob.d) hlt)); have HX' := Lib.hid (HF'.out _ (getD_in (d := shJob.d) hly))
    generalize xs.getD k shJob.d = X at *
    generalize ys.getD k shJob.d = Y at *
    have hsz := hb.size
    have hlu := shJob.R_len hX; have hlu' := shJob.R_len hX'
    obtain ⟨HC, HZ, HS, HO⟩ := elF (P := Tryz.prog) sizeIJob hc hX
    obtain ⟨HC', HZ', HS', HO'⟩ := elF (P := Tryz.prog) sizeIJob hc' hX'
    have HT := Lib.hid (there_blk (n := us.toArray.size) (o := 0) (Blk.new wr 159 zz15) (by rw [List.size_toArray, hlu]; exact Nat.le_refl _))
    have HR := Lib.hid hX; have HR' := Lib.hid hX'; have HB := Lib.hid hb
    obtain ⟨hbl, hr1, hz5⟩ := cpyF HT.out
    have HBL := Lib.hid hbl; have HR1 := Lib.hid hr1
    clear hb hX hX' hc hc' htk hbl hr1
    go_upto_region 6 with (first | fail | (refine wlg b (off + k * 52) us HC.out Tryz.underlying159 HZ.out ?_) | (refine wpList_store_mid rfl _ _ _ rfl wr.heap.size 0 us.toArray rfl rfl HT.out HS.out HO.out ?_))
    clear HT HS HO
    generalize (wr.alloc (.cells zz15 159)).setCells wr.heap.size 0 us = w5 at *
    have HC5 := Lib.hid (rng_below HC'.out HBL.out (by omega))
    have HT := Lib.hid (there_blk (n := us'.toArray.size) (o := 0) (Blk.new w5 159 zz15) (by rw [List.size_toArray, hlu']; exact Nat.le_refl _))
    have hbl : Below w5.heap.size w5 ((w5.alloc (.cells zz15 159)).setCells w5.heap.size 0 us') := ((Below.refl _ _).alloc (Nat.le_refl _) _).trans ((setCells_out w5.heap.size us' 0 (w5.alloc (.cells zz15 159))).1.below1 (Nat.le_refl _) (by simp))
    have hr2 : ((w5.alloc (.cells zz15 159)).setCells w5.heap.size 0 us').rangeAt w5.heap.size 0 us' := World.rangeAt_setCells_same _ _ _ _ (by simpa using HT.out)
    have HBM := Lib.hid hbl; have HR2 := Lib.hid hr2; have HQ1 := Lib.hid (rng_below HR1.out hbl (by omega))
    clear hbl hr2 HC HC' HR1
    go_upto_region 7 with (first | fail | (refine wlg b' (off' + k * 52) us' HC5.out Tryz.underlying159 HZ'.out ?_) | (refine wpList_store_mid rfl _ _ _ rfl w5.heap.size 0 us'.toArray rfl rfl HT.out HS'.out HO'.out ?_))
    clear HT HS' HO' HC5
    have HBB := Lib.hid (HBL.out.trans (HBM.out.mono (by omega)))
    generalize (w5.alloc (.cells zz15 159)).setCells w5.heap.size 0 us' = w6 at *
    have hs6 := HBB.out.size
    go_wp2_with (first | fail | (refine wlg wr.heap.size 0 us HQ1.out Tryz.underlying159 HZ.out ?_) | (refine wlg w5.heap.size 0 us' HR2.out Tryz.underlying159 HZ'.out ?_))
    refine (sameJob_o X Y us us' lo hi lo' hi' w6 (shJob.R_below HR.out HBB.out (by omega)) (shJob.R_below HR'.out HBB.out (by omega)) (by omega) (by omega) HX.out HX'.out).mono ?_
    rintro e7 w7 ⟨rfl, hb7⟩
    have HD := Lib.hid (HB.out.trans ((HBB.out.mono hsz).trans (hb7.mono (by omega))))
    clear hb7 HQ1 HR2
    by_cases hxy : X = Y
    ·have HS2 := Lib.hid (HST.out hxy)
     rw [same_t hxy]
     go_wp2_with fail
     go_roundw
     case rel => exact ⟨k + 1, by omega, by go_num, HS2, HD.out⟩
     case measure => simp [intOf]; omega
    ·have HFF := Lib.hid (HANS.out.trans (same_f (HNE.out hxy)))
     rw [same_f hxy]
     clear hxy HST HNE
     go_wp2_with fail
     go_ret
     exact ⟨by rw [HFF.out]; rfl, HD.out⟩
   ·obtain rfl : k = xs.length := by omega
    have HB := Lib.hid hb; have HT := Lib.hid (HANS.out.trans (same_t (take_all htk.out HL.out))); clear hb htk
    go_wp2_with fail
    go_ret
    exact ⟨by rw [HT.out]; rfl, HB.out⟩
 ·have HFF := Lib.hid (HANS.out.trans (same_f (ne_of_len hl)))
  have hm := hf'.1
  have n1 : ((xs.length : Int) == (ys.length : Int)) = false := by rw [beq_eq_false_iff_ne]; omega
  have n2 : ((xs.length : Int) != (ys.length : Int)) = true := by rw [bne_iff_ne]; omega
  clear hl h h' hf hf'
  go_enter Tryz.func75, Tryz.ntmps75
  go_wp2_with fail
  go_ret
  exact ⟨by rw [HFF.out]; rfl, Below.refl _ _⟩
theorem iSameWorld_o : SmS shWorld 27 := by
 intro X Y vs us lo hi lo' hi' w h h' hhi hhi' hf hf'
 obtain ⟨ANS, hANS⟩ : ∃ b, b = sameB X Y := ⟨_, rfl⟩
 rw [← hANS]
 obtain ⟨x0, X1, x2, X3, X4, x5, x6, x7⟩ := X
 obtain ⟨y0, Y1, y2, Y3, Y4, y5, y6, y7⟩ := Y
 obtain ⟨ft0, ft1, ft2, ft3, ft4, ft5, ft6, ft7⟩ := hf
 obtain ⟨gt0, gt1, gt2, gt3, gt4, gt5, gt6, gt7⟩ := hf'
 have HANS := Lib.hid hANS; clear hANS
 obtain ⟨u0, ru0, eu0, k0, u1, ru1, eu1, k1, u2, ru2, eu2, k2, u3, ru3, eu3, k3, u4, ru4, eu4, k4, u5, ru5, eu5, k5, u6, ru6, eu6, k6, k7⟩ := h
 generalize ru6 = u7 at *
 obtain rfl := (show u0 = [.int .i64 x0] from k0)
 have qk2 := k2; obtain ⟨A2, c2, rfl, _⟩ := qk2
 have qk5 := k5; obtain ⟨A5, c5, rfl, _⟩ := qk5
 obtain rfl := (show u6 = [.int .i64 x6] from k6)
 have qk7 := k7; obtain ⟨A7, c7, rfl, _⟩ := qk7
 have HG := Lib.hid (show ∀ (W : World) (b : Nat) (t : TypeId), Blk W b t vs.toArray → W.cell? ⟨b, 0, none⟩ = some (.int .i64 x0) ∧ W.rangeAt b 1 u1 ∧ W.cell? ⟨b, 3, none⟩ = some (.slice A2 x2.length c2) ∧ W.rangeAt b 4 u3 ∧ W.rangeAt b 5 u4 ∧ W.cell? ⟨b, 7, none⟩ = some (.slice A5 x5.length c5) ∧ W.cell? ⟨b, 8, none⟩ = some (.int .i64 x6) ∧ W.cell? ⟨b, 9, none⟩ = some (.slice A7 x7.length c7) from fun W b t hB => by
  have q := blk_all hB
  obtain ⟨p0, q⟩ := rsp eu0 rfl q
  obtain ⟨p1, q⟩ := rsp eu1 (shProgram.R_len k1) q
  obtain ⟨p2, q⟩ := rsp eu2 rfl q
  obtain ⟨p3, q⟩ := rsp eu3 (shTree.R_len k3) q
  obtain ⟨p4, q⟩ := rsp eu4 (shLocks.R_len k4) q
  obtain ⟨p5, q⟩ := rsp eu5 rfl q
  obtain ⟨p6, q⟩ := rsp eu6 rfl q
  exact ⟨rng_one p0, p1, rng_one p2, p3, p4, rng_one p5, rng_one p6, rng_one q⟩)
 clear eu0 eu1 eu2 eu3 eu4 eu5 eu6
 obtain ⟨v0, rv0, ev0, l0, v1, rv1, ev1, l1, v2, rv2, ev2, l2, v3, rv3, ev3, l3, v4, rv4, ev4, l4, v5, rv5, ev5, l5, v6, rv6, ev6, l6, l7⟩ := h'
 generalize rv6 = v7 at *
 obtain rfl := (show v0 = [.int .i64 y0] from l0)
 have ql2 := l2; obtain ⟨B2, d2, rfl, _⟩ := ql2
 have ql5 := l5; obtain ⟨B5, d5, rfl, _⟩ := ql5
 obtain rfl := (show v6 = [.int .i64 y6] from l6)
 have ql7 := l7; obtain ⟨B7, d7, rfl, _⟩ := ql7
 have HH := Lib.hid (show ∀ (W : World) (b : Nat) (t : TypeId), Blk W b t us.toArray → W.cell? ⟨b, 0, none⟩ = some (.int .i64 y0) ∧ W.rangeAt b 1 v1 ∧ W.cell? ⟨b, 3, none⟩ = some (.slice B2 y2.length d2) ∧ W.rangeAt b 4 v3 ∧ W.rangeAt b 5 v4 ∧ W.cell? ⟨b, 7, none⟩ = some (.slice B5 y5.length d5) ∧ W.cell? ⟨b, 8, none⟩ = some (.int .i64 y6) ∧ W.cell? ⟨b, 9, none⟩ = some (.slice B7 y7.length d7) from fun W b t hB => by
  have q := blk_all hB
  obtain ⟨p0, q⟩ := rsp ev0 rfl q
  obtain ⟨p1, q⟩ := rsp ev1 (shProgram.R_len l1) q
  obtain ⟨p2, q⟩ := rsp ev2 rfl q
  obtain ⟨p3, q⟩ := rsp ev3 (shTree.R_len l3) q
  obtain ⟨p4, q⟩ := rsp ev4 (shLocks.R_len l4) q
  obtain ⟨p5, q⟩ := rsp ev5 rfl q
  obtain ⟨p6, q⟩ := rsp ev6 rfl q
  exact ⟨rng_one p0, p1, rng_one p2, p3, p4, rng_one p5, rng_one p6, rng_one q⟩)
 clear ev0 ev1 ev2 ev3 ev4 ev5 ev6
 have R0 := (((((((((((((((Stand.nil w).ad shProgram.R u1 X1 hhi k1 shProgram.R_keep).ad (Sh.row 229 shTrigger).R [.slice A2 x2.length c2] x2 hhi k2 (Sh.row 229 shTrigger).R_keep).ad shTree.R u3 X3 hhi k3 shTree.R_keep).ad shLocks.R u4 X4 hhi k4 shLocks.R_keep).ad (Sh.row 159 shJob).R [.slice A5 x5.length c5] x5 hhi k5 (Sh.row 159 shJob).R_keep).ad (Sh.row 167 shBatch).R [.slice A7 x7.length c7] x7 hhi k7 (Sh.row 167 shBatch).R_keep).ad shProgram.R v1 Y1 hhi' l1 shProgram.R_keep).ad (Sh.row 229 shTrigger).R [.slice B2 y2.length d2] y2 hhi' l2 (Sh.row 229 shTrigger).R_keep).ad shTree.R v3 Y3 hhi' l3 shTree.R_keep).ad shLocks.R v4 Y4 hhi' l4 shLocks.R_keep).ad (Sh.row 159 shJob).R [.slice B5 y5.length d5] y5 hhi' l5 (Sh.row 159 shJob).R_keep).ad (Sh.row 167 shBatch).R [.slice B7 y7.length d7] y7 hhi' l7 (Sh.row 167 shBatch).R_keep).box 74 vs.toArray).box 74 us.toArray)
 rw [heap_alloc_size1] at R0
 have HR0 := Lib.hid R0
 have HZ1 := slH sizeIProgram k1
 have HY1 := slH sizeIProgram l1
 have HZ3 := slH sizeITree k3
 have HY3 := slH sizeITree l3
 have HZ4 := slH sizeILocks k4
 have HY4 := slH sizeILocks l4
 clear R0 k1 l1 k2 l2 k3 l3 k4 l4 k5 l5 k7 l7
 go_enter Tryz.func27, Tryz.ntmps27
 (try dsimp only [List.append])
 have f0 := (HG.out _ _ _ (HR0.out.get 1 rfl)).1
 have g0 := (HH.out _ _ _ (HR0.out.get 0 rfl)).1
 by_cases hne : x0 = y0
 rotate_left
 ·have HF := nf (fun X : TyWorld => X.1) HANS hne
  have hq : (x0 == y0) = false := beq_eq_false_iff_ne.2 hne
  clear hne
  go_wp2_with fail
  go_ret
  exact ⟨by rw [HF.out]; rfl, HR0.out.1⟩
 subst hne
 go_wp2_with (first | fail | (refine wlg w.heap.size 1 u1 (HG.out _ _ _ (HR0.out.get 1 rfl)).2.1 Tryz.underlying62 HZ1.out ?_) | (refine wlg (w.heap.size + 1) 1 v1 (HH.out _ _ _ (HR0.out.get 0 rfl)).2.1 Tryz.underlying62 HY1.out ?_))
 refine (sameProgram_o X1 Y1 u1 v1 lo hi lo' hi' _ (HR0.out.get 13 rfl) (HR0.out.get 7 rfl) (HR0.out.le 13 rfl) (HR0.out.le 7 rfl) ft1 gt1).mono ?_
 rintro e1 w1 ⟨rfl, hb1⟩
 have HR1 := Lib.hid (HR0.out.below hb1)
 clear hb1 HR0  f0 g0
 by_cases hne : X1 = Y1
 rotate_left
 ·rw [same_f hne]
  have HF := nf (fun X : TyWorld => X.2.1) HANS hne
  clear hne
  go_wp2_with fail
  go_ret
  exact ⟨by rw [HF.out]; rfl, HR1.out.1⟩
 rw [same_t hne]
 subst hne
 have f2 := (HG.out _ _ _ (HR1.out.get 1 rfl)).2.2.1
 have g2 := (HH.out _ _ _ (HR1.out.get 0 rfl)).2.2.1
 go_wp2_with fail
 refine (iSameTriggers A2 B2 c2 d2 x2 y2 lo hi lo' hi' _ (HR1.out.get 12 rfl) (HR1.out.get 6 rfl) (HR1.out.le 12 rfl) (HR1.out.le 6 rfl) ft2 gt2).mono ?_
 rintro e2 w2 ⟨rfl, hb2⟩
 have HR2 := Lib.hid (HR1.out.below hb2)
 clear hb2 HR1  f2 g2
 by_cases hne : x2 = y2
 rotate_left
 ·rw [same_f hne]
  have HF := nf (fun X : TyWorld => X.2.2.1) HANS hne
  clear hne
  go_wp2_with fail
  go_ret
  exact ⟨by rw [HF.out]; rfl, HR2.out.1⟩
 rw [same_t hne]
 subst hne
 go_wp2_with (first | fail | (refine wlg w.heap.size 4 u3 (HG.out _ _ _ (HR2.out.get 1 rfl)).2.2.2.1 Tryz.underlying66 HZ3.out ?_) | (refine wlg (w.heap.size + 1) 4 v3 (HH.out _ _ _ (HR2.out.get 0 rfl)).2.2.2.1 Tryz.underlying66 HY3.out ?_))
 refine (iSameTree_o X3 Y3 u3 v3 lo hi lo' hi' _ (HR2.out.get 11 rfl) (HR2.out.get 5 rfl) (HR2.out.le 11 rfl) (HR2.out.le 5 rfl) ft3 gt3).mono ?_
 rintro e3 w3 ⟨rfl, hb3⟩
 have HR3 := Lib.hid (HR2.out.below hb3)
 clear hb3 HR2  
 by_cases hne : X3 = Y3
 rotate_left
 ·rw [same_f hne]
  have HF := nf (fun X : TyWorld => X.2.2.2.1) HANS hne
  clear hne
  go_wp2_with fail
  go_ret
  exact ⟨by rw [HF.out]; rfl, HR3.out.1⟩
 rw [same_t hne]
 subst hne
 go_wp2_with (first | fail | (refine wlg w.heap.size 5 u4 (HG.out _ _ _ (HR3.out.get 1 rfl)).2.2.2.2.1 Tryz.underlying70 HZ4.out ?_) | (refine wlg (w.heap.size + 1) 5 v4 (HH.out _ _ _ (HR3.out.get 0 rfl)).2.2.2.2.1 Tryz.underlying70 HY4.out ?_))
 refine (iSameLocks_o X4 Y4 u4 v4 lo hi lo' hi' _ (HR3.out.get 10 rfl) (HR3.out.get 4 rfl) (HR3.out.le 10 rfl) (HR3.out.le 4 rfl) ft4 gt4).mono ?_
 rintro e4 w4 ⟨rfl, hb4⟩
 have HR4 := Lib.hid (HR3.out.below hb4)
 clear hb4 HR3  
 by_cases hne : X4 = Y4
 rotate_left
 ·rw [same_f hne]
  have HF := nf (fun X : TyWorld => X.2.2.2.2.1) HANS hne
  clear hne
  go_wp2_with fail
  go_ret
  exact ⟨by rw [HF.out]; rfl, HR4.out.1⟩
 rw [same_t hne]
 subst hne
 have f5 := (HG.out _ _ _ (HR4.out.get 1 rfl)).2.2.2.2.2.1
 have g5 := (HH.out _ _ _ (HR4.out.get 0 rfl)).2.2.2.2.2.1
 go_wp2_with fail
 refine (eqfJob A5 B5 c5 d5 x5 y5 lo hi lo' hi' _ (HR4.out.get 9 rfl) (HR4.out.get 3 rfl) (HR4.out.le 9 rfl) (HR4.out.le 3 rfl) ft5 gt5).mono ?_
 rintro e5 w5 ⟨rfl, hb5⟩
 have HR5 := Lib.hid (HR4.out.below hb5)
 clear hb5 HR4  f5 g5
 by_cases hne : x5 = y5
 rotate_left
 ·rw [same_f hne]
  have HF := nf (fun X : TyWorld => X.2.2.2.2.2.1) HANS hne
  clear hne
  go_wp2_with fail
  go_ret
  exact ⟨by rw [HF.out]; rfl, HR5.out.1⟩
 rw [same_t hne]
 subst hne
 have f6 := (HG.out _ _ _ (HR5.out.get 1 rfl)).2.2.2.2.2.2.1
 have g6 := (HH.out _ _ _ (HR5.out.get 0 rfl)).2.2.2.2.2.2.1
 have f7 := (HG.out _ _ _ (HR5.out.get 1 rfl)).2.2.2.2.2.2.2
 have g7 := (HH.out _ _ _ (HR5.out.get 0 rfl)).2.2.2.2.2.2.2
 by_cases hne : x6 = y6
 rotate_left
 ·have HF := nf (fun X : TyWorld => X.2.2.2.2.2.2.1) HANS hne
  have hq : (x6 == y6) = false := beq_eq_false_iff_ne.2 hne
  clear hne
  go_wp2_with fail
  go_ret
  exact ⟨by rw [HF.out]; rfl, HR5.out.1⟩
 subst hne
 go_wp2_with fail
 refine (iSameBatches A7 B7 c7 d7 x7 y7 lo hi lo' hi' _ (HR5.out.get 8 rfl) (HR5.out.get 2 rfl) (HR5.out.le 8 rfl) (HR5.out.le 2 rfl) ft7 gt7).mono ?_
 rintro e7 w7 ⟨rfl, hb7⟩
 have HR6 := Lib.hid (HR5.out.below hb7)
 clear hb7 HR5  f6 g6 f7 g7
 by_cases hne : x7 = y7
 rotate_left
 ·rw [same_f hne]
  have HF := nf (fun X : TyWorld => X.2.2.2.2.2.2.2) HANS hne
  clear hne
  go_wp2_with fail
  go_ret
  exact ⟨by rw [HF.out]; rfl, HR6.out.1⟩
 rw [same_t hne]
 subst hne
 have HT := Lib.hid (HANS.out.trans (same_t rfl))
 go_wp2_with fail
 go_ret
 exact ⟨by rw [HT.out]; rfl, HR6.out.1⟩
end Go.Proofs.YtgnmollbnopigaaGreat
