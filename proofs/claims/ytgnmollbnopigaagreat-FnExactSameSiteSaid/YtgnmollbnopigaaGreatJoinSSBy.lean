/- Comparisons, both sides. Printed by gen_same2.py. -/
import Derived.Test.YtgnmollbnopigaaGreatJoinSSBx
import Derived.Test.YtgnmollbnopigaaGreatJoinSSBo
import Derived.Test.YtgnmollbnopigaaGreatJoinSSBp
import Derived.Test.YtgnmollbnopigaaGreatJoinSSBs
set_option maxHeartbeats 16000000
set_option maxRecDepth 100000
namespace Go.Proofs.YtgnmollbnopigaaGreat
open Go.RowKit
theorem sSameWorld_o : SmS shWorld 19 := by
 intro X Y vs us lo hi lo' hi' w h h' hhi hhi' hf hf'
 obtain ⟨ANS, hANS⟩ : ∃ b, b = sameB X Y := ⟨_, rfl⟩
 rw [← hANS]
 obtain ⟨x0, X1, x2, X3, X4, x5, x6, x7⟩ := X
 obtain ⟨y0, Y1, y2, Y3, Y4, y5, y6, y7⟩ := Y
 obtain ⟨ft0, ft1, ft2, ft3, ft4, ft5, ft6, ft7⟩ := hf
 obtain ⟨gt0, gt1, gt2, gt3, gt4, gt5, gt6, gt7⟩ := hf'
 have HANS := Lib.hid hANS; clear hANS
 obtain ⟨u0, ru0, eu0, k0, u1, ru1, eu1, k1, u2, ru2, eu2, k2, u3, ru3, eu3, k3, u4, ru4, eu4, k4, u5, ru5, eu5, k5, u6, ru6, eu6, k6, k7⟩ := h
 generalize ru6 = u7 at *
 obtain rfl := (show u0 = [.int .i64 x0] from k0)
 have qk2 := k2; obtain ⟨A2, c2, rfl, _⟩ := qk2
 have qk5 := k5; obtain ⟨A5, c5, rfl, _⟩ := qk5
 obtain rfl := (show u6 = [.int .i64 x6] from k6)
 have qk7 := k7; obtain ⟨A7, c7, rfl, _⟩ := qk7
 have HG := Lib.hid (show ∀ (W : World) (b : Nat) (t : TypeId), Blk W b t vs.toArray → W.cell? ⟨b, 0, none⟩ = some (.int .i64 x0) ∧ W.rangeAt b 1 u1 ∧ W.cell? ⟨b, 3, none⟩ = some (.slice A2 x2.length c2) ∧ W.rangeAt b 4 u3 ∧ W.rangeAt b 5 u4 ∧ W.cell? ⟨b, 7, none⟩ = some (.slice A5 x5.length c5) ∧ W.cell? ⟨b, 8, none⟩ = some (.int .i64 x6) ∧ W.cell? ⟨b, 9, none⟩ = some (.slice A7 x7.length c7) from fun W b t hB => by
  have q := blk_all hB
  obtain ⟨p0, q⟩ := rsp eu0 rfl q
  obtain ⟨p1, q⟩ := rsp eu1 (shProgram.R_len k1) q
  obtain ⟨p2, q⟩ := rsp eu2 rfl q
  obtain ⟨p3, q⟩ := rsp eu3 (shTree.R_len k3) q
  obtain ⟨p4, q⟩ := rsp eu4 (shLocks.R_len k4) q
  obtain ⟨p5, q⟩ := rsp eu5 rfl q
  obtain ⟨p6, q⟩ := rsp eu6 rfl q
  exact ⟨rng_one p0, p1, rng_one p2, p3, p4, rng_one p5, rng_one p6, rng_one q⟩)
 clear eu0 eu1 eu2 eu3 eu4 eu5 eu6
 obtain ⟨v0, rv0, ev0, l0, v1, rv1, ev1, l1, v2, rv2, ev2, l2, v3, rv3, ev3, l3, v4, rv4, ev4, l4, v5, rv5, ev5, l5, v6, rv6, ev6, l6, l7⟩ := h'
 generalize rv6 = v7 at *
 obtain rfl := (show v0 = [.int .i64 y0] from l0)
 have ql2 := l2; obtain ⟨B2, d2, rfl, _⟩ := ql2
 have ql5 := l5; obtain ⟨B5, d5, rfl, _⟩ := ql5
 obtain rfl := (show v6 = [.int .i64 y6] from l6)
 have ql7 := l7; obtain ⟨B7, d7, rfl, _⟩ := ql7
 have HH := Lib.hid (show ∀ (W : World) (b : Nat) (t : TypeId), Blk W b t us.toArray → W.cell? ⟨b, 0, none⟩ = some (.int .i64 y0) ∧ W.rangeAt b 1 v1 ∧ W.cell? ⟨b, 3, none⟩ = some (.slice B2 y2.length d2) ∧ W.rangeAt b 4 v3 ∧ W.rangeAt b 5 v4 ∧ W.cell? ⟨b, 7, none⟩ = some (.slice B5 y5.length d5) ∧ W.cell? ⟨b, 8, none⟩ = some (.int .i64 y6) ∧ W.cell? ⟨b, 9, none⟩ = some (.slice B7 y7.length d7) from fun W b t hB => by
  have q := blk_all hB
  obtain ⟨p0, q⟩ := rsp ev0 rfl q
  obtain ⟨p1, q⟩ := rsp ev1 (shProgram.R_len l1) q
  obtain ⟨p2, q⟩ := rsp ev2 rfl q
  obtain ⟨p3, q⟩ := rsp ev3 (shTree.R_len l3) q
  obtain ⟨p4, q⟩ := rsp ev4 (shLocks.R_len l4) q
  obtain ⟨p5, q⟩ := rsp ev5 rfl q
  obtain ⟨p6, q⟩ := rsp ev6 rfl q
  exact ⟨rng_one p0, p1, rng_one p2, p3, p4, rng_one p5, rng_one p6, rng_one q⟩)
 clear ev0 ev1 ev2 ev3 ev4 ev5 ev6
 have R0 := (((((((((((((((Stand.nil w).ad shProgram.R u1 X1 hhi k1 shProgram.R_keep).ad (Sh.row 229 shTrigger).R [.slice A2 x2.length c2] x2 hhi k2 (Sh.row 229 shTrigger).R_keep).ad shTree.R u3 X3 hhi k3 shTree.R_keep).ad shLocks.R u4 X4 hhi k4 shLocks.R_keep).ad (Sh.row 159 shJob).R [.slice A5 x5.length c5] x5 hhi k5 (Sh.row 159 shJob).R_keep).ad (Sh.row 167 shBatch).R [.slice A7 x7.length c7] x7 hhi k7 (Sh.row 167 shBatch).R_keep).ad shProgram.R v1 Y1 hhi' l1 shProgram.R_keep).ad (Sh.row 229 shTrigger).R [.slice B2 y2.length d2] y2 hhi' l2 (Sh.row 229 shTrigger).R_keep).ad shTree.R v3 Y3 hhi' l3 shTree.R_keep).ad shLocks.R v4 Y4 hhi' l4 shLocks.R_keep).ad (Sh.row 159 shJob).R [.slice B5 y5.length d5] y5 hhi' l5 (Sh.row 159 shJob).R_keep).ad (Sh.row 167 shBatch).R [.slice B7 y7.length d7] y7 hhi' l7 (Sh.row 167 shBatch).R_keep).box 74 vs.toArray).box 74 us.toArray)
 rw [heap_alloc_size1] at R0
 have HR0 := Lib.hid R0
 have HZ1 := slH sizeIProgram k1
 have HY1 := slH sizeIProgram l1
 have HZ3 := slH sizeITree k3
 have HY3 := slH sizeITree l3
 have HZ4 := slH sizeILocks k4
 have HY4 := slH sizeILocks l4
 clear R0 k1 l1 k2 l2 k3 l3 k4 l4 k5 l5 k7 l7
 go_enter Tryz.func19, Tryz.ntmps19
 (try dsimp only [List.append])
 have f0 := (HG.out _ _ _ (HR0.out.get 1 rfl)).1
 have g0 := (HH.out _ _ _ (HR0.out.get 0 rfl)).1
 by_cases hne : x0 = y0
 rotate_left
 ·have HF := nf (fun X : TyWorld => X.1) HANS hne
  have hq : (x0 == y0) = false := beq_eq_false_iff_ne.2 hne
  have hq2 : (x0 != y0) = true := by simp [hq, bne]
  clear hne
  go_wp2_with fail
  go_ret
  exact ⟨by rw [HF.out]; rfl, HR0.out.1⟩
 subst hne
 go_wp2_with (first | fail | (refine wlg w.heap.size 1 u1 (HG.out _ _ _ (HR0.out.get 1 rfl)).2.1 Tryz.underlying62 HZ1.out ?_) | (refine wlg (w.heap.size + 1) 1 v1 (HH.out _ _ _ (HR0.out.get 0 rfl)).2.1 Tryz.underlying62 HY1.out ?_))
 refine (sSameProgram_o X1 Y1 u1 v1 lo hi lo' hi' _ (HR0.out.get 13 rfl) (HR0.out.get 7 rfl) (HR0.out.le 13 rfl) (HR0.out.le 7 rfl) ft1 gt1).mono ?_
 rintro e1 w1 ⟨rfl, hb1⟩
 have HR1 := Lib.hid (HR0.out.below hb1)
 clear hb1 HR0 f0 g0
 by_cases hne : X1 = Y1
 rotate_left
 ·rw [same_f hne]
  have HF := nf (fun X : TyWorld => X.2.1) HANS hne
  clear hne
  go_wp2_with fail
  go_ret
  exact ⟨by rw [HF.out]; rfl, HR1.out.1⟩
 rw [same_t hne]
 subst hne
 have f2 := (HG.out _ _ _ (HR1.out.get 1 rfl)).2.2.1
 have g2 := (HH.out _ _ _ (HR1.out.get 0 rfl)).2.2.1
 go_wp2_with fail
 refine (sSameTriggers A2 B2 c2 d2 x2 y2 lo hi lo' hi' _ (HR1.out.get 12 rfl) (HR1.out.get 6 rfl) (HR1.out.le 12 rfl) (HR1.out.le 6 rfl) ft2 gt2).mono ?_
 rintro e2 w2 ⟨rfl, hb2⟩
 have HR2 := Lib.hid (HR1.out.below hb2)
 clear hb2 HR1 f2 g2
 by_cases hne : x2 = y2
 rotate_left
 ·rw [same_f hne]
  have HF := nf (fun X : TyWorld => X.2.2.1) HANS hne
  clear hne
  go_wp2_with fail
  go_ret
  exact ⟨by rw [HF.out]; rfl, HR2.out.1⟩
 rw [same_t hne]
 subst hne
 go_wp2_with (first | fail | (refine wlg w.heap.size 4 u3 (HG.out _ _ _ (HR2.out.get 1 rfl)).2.2.2.1 Tryz.underlying66 HZ3.out ?_) | (refine wlg (w.heap.size + 1) 4 v3 (HH.out _ _ _ (HR2.out.get 0 rfl)).2.2.2.1 Tryz.underlying66 HY3.out ?_))
 refine (sSameTree_o X3 Y3 u3 v3 lo hi lo' hi' _ (HR2.out.get 11 rfl) (HR2.out.get 5 rfl) (HR2.out.le 11 rfl) (HR2.out.le 5 rfl) ft3 gt3).mono ?_
 rintro e3 w3 ⟨rfl, hb3⟩
 have HR3 := Lib.hid (HR2.out.below hb3)
 clear hb3 HR2 
 by_cases hne : X3 = Y3
 rotate_left
 ·rw [same_f hne]
  have HF := nf (fun X : TyWorld => X.2.2.2.1) HANS hne
  clear hne
  go_wp2_with fail
  go_ret
  exact ⟨by rw [HF.out]; rfl, HR3.out.1⟩
 rw [same_t hne]
 subst hne
 go_wp2_with (first | fail | (refine wlg w.heap.size 5 u4 (HG.out _ _ _ (HR3.out.get 1 rfl)).2.2.2.2.1 Tryz.underlying70 HZ4.out ?_) | (refine wlg (w.heap.size + 1) 5 v4 (HH.out _ _ _ (HR3.out.get 0 rfl)).2.2.2.2.1 Tryz.underlying70 HY4.out ?_))
 refine (sSameLocks_o X4 Y4 u4 v4 lo hi lo' hi' _ (HR3.out.get 10 rfl) (HR3.out.get 4 rfl) (HR3.out.le 10 rfl) (HR3.out.le 4 rfl) ft4 gt4).mono ?_
 rintro e4 w4 ⟨rfl, hb4⟩
 have HR4 := Lib.hid (HR3.out.below hb4)
 clear hb4 HR3 
 by_cases hne : X4 = Y4
 rotate_left
 ·rw [same_f hne]
  have HF := nf (fun X : TyWorld => X.2.2.2.2.1) HANS hne
  clear hne
  go_wp2_with fail
  go_ret
  exact ⟨by rw [HF.out]; rfl, HR4.out.1⟩
 rw [same_t hne]
 subst hne
 have f5 := (HG.out _ _ _ (HR4.out.get 1 rfl)).2.2.2.2.2.1
 have g5 := (HH.out _ _ _ (HR4.out.get 0 rfl)).2.2.2.2.2.1
 have f6 := (HG.out _ _ _ (HR4.out.get 1 rfl)).2.2.2.2.2.2.1
 have g6 := (HH.out _ _ _ (HR4.out.get 0 rfl)).2.2.2.2.2.2.1
 by_cases hne : x5.length = y5.length
 rotate_left
 ·have HF := nf (fun X : TyWorld => (X.2.2.2.2.2.1).length) HANS hne
  have n1 : ((x5.length : Int) == (y5.length : Int)) = false := by rw [beq_eq_false_iff_ne]; omega
  have n2 : ((x5.length : Int) != (y5.length : Int)) = true := by rw [bne_iff_ne]; omega
  clear hne
  go_wp2_with fail
  go_ret
  exact ⟨by rw [HF.out]; rfl, HR4.out.1⟩
 have HL5 := Lib.hid hne
 have m5 : ((x5.length : Int) == (y5.length : Int)) = true := by rw [beq_iff_eq]; omega
 have n5 : ((x5.length : Int) != (y5.length : Int)) = false := by rw [hne]; simp
 clear hne
 by_cases hne : x6 = y6
 rotate_left
 ·have HF := nf (fun X : TyWorld => X.2.2.2.2.2.2.1) HANS hne
  have hq : (x6 == y6) = false := beq_eq_false_iff_ne.2 hne
  have hq2 : (x6 != y6) = true := by simp [hq, bne]
  clear hne
  go_wp2_with fail
  go_ret
  exact ⟨by rw [HF.out]; rfl, HR4.out.1⟩
 subst hne
 go_wp2_with fail
 obtain ⟨Q, q0, qs, qg⟩ := HR4.out.veilQ
 have HQ0 := Lib.hid q0; have QS := Lib.hid qs; have QG := Lib.hid qg
 clear q0 qs qg HR4 f5 g5 f6 g6 m5 n5
 have hn5 := ft5.1
 go_loopw [5] (fun i wr => ∃ k : Nat, k ≤ x5.length ∧ i = .int .i64 k ∧ Hid (x5.take k = y5.take k) ∧ Hid (Q wr)) (fun i _ => x5.length - (intOf i).toNat)
 case atStart => exact ⟨0, Nat.zero_le _, rfl, Lib.hid rfl, HQ0⟩
 case round =>
  obtain ⟨k, hk, rfl, htk, hq5⟩ := hrel
  have HRr := Lib.hid (QG.out _ hq5.out)
  have f5 := (HG.out _ _ _ (HRr.out.get 1 rfl)).2.2.2.2.2.1
  have g5 := (HH.out _ _ _ (HRr.out.get 0 rfl)).2.2.2.2.2.1
  by_cases hlt : k < x5.length
  ·have hly : k < y5.length := by have := HL5.out; omega
   obtain ⟨b, off, rfl, hb1, hb2, us, hc, hX⟩ := row_at (HRr.out.get 9 rfl) hlt
   obtain ⟨b', off', rfl, hb1', hb2', us', hc', hX'⟩ := row_at (HRr.out.get 3 rfl) hly
   have HST := Lib.hid (fun he => take_step (d := shJob.d) htk.out hlt HL5.out he)
   have HNE := Lib.hid (fun he => ne_at (xs := x5) (ys := y5) (d := shJob.d) (k := k) he)
   have HX := Lib.hid (ft5.2 _ (getD_in (d := shJob.d) hlt)); have HX' := Lib.hid (gt5.2 _ (getD_in (d := shJob.d) hly))
   generalize x5.getD k shJob.d = EX at *
   generalize y5.getD k shJob.d = EY at *
   have HR := Lib.hid (show shJob.R wr.drew lo hi us EX from shJob.R_below hX (below_drewN' wr 1) (HRr.out.le 9 rfl)); have HR' := Lib.hid (show shJob.R wr.drew lo' hi' us' EY from shJob.R_below hX' (below_drewN' wr 1) (HRr.out.le 3 rfl))
   have HC := Lib.hid (show wr.drew.rangeAt b (off + k * 52) us from rng_of hc); have HC' := Lib.hid (show wr.drew.rangeAt b' (off' + k * 52) us' from rng_of hc')
   have HZ := slH sizeIJob hX; have HZ' := slH sizeIJob hX'
   have HQd := Lib.hid (QS.out _ wr.drew hq5.out (below_drewN' wr 1))
   have HRd := Lib.hid (QG.out _ HQd.out)
   have HF1 := Lib.hid (show wr.drew.cell? _ = _ from (HG.out _ _ _ (HRd.out.get 1 rfl)).2.2.2.2.2.1); have HF2 := Lib.hid (show wr.drew.cell? _ = _ from (HH.out _ _ _ (HRd.out.get 0 rfl)).2.2.2.2.2.1)
   clear hX hX' hc hc' htk HRr
   go_upto_region 6 with fail
   clear f5 g5
   refine AnyT.region (fun _ => false) (fun W => (W.cell? ⟨w.heap.size, 7, none⟩ = some (.slice (some ⟨b, off, none⟩) x5.length c5) ∧ W.cell? ⟨w.heap.size + 1, 7, none⟩ = some (.slice (some ⟨b', off', none⟩) y5.length d5)) ∧ W.rangeAt b (off + k * 52) us ∧ W.rangeAt b' (off' + k * 52) us') (by kernel_rfl) ⟨⟨HF1.out, HF2.out⟩, HC.out, HC'.out⟩ (fun hHeld => ?_)
   generalize wr.drew = w4 at *
   (refine AnyT.ta 0 66 ?_; simp only [Act.put, za, zb, zc])
   (refine AnyT.tk 1 67 ?_; simp only [Act.put, za, zb, zc])
   (refine AnyT.ta 2 68 ?_; simp only [Act.put, za, zb, zc])
   (refine AnyT.ta 3 69 ?_; simp only [Act.put, za, zb, zc])
   refine AnyT.tx 4 70 (.agg us.toArray) (fun W hS => exec_loadMid _ _ rfl b (off + k * 52) rfl us hS.2.1 Tryz.underlying159 rfl HZ.out) ?_
   simp only [Act.put, za, zb, zc]
   (refine AnyT.ta 5 71 ?_; simp only [Act.put, za, zb, zc])
   (refine AnyT.tk 6 72 ?_; simp only [Act.put, za, zb, zc])
   (refine AnyT.ta 7 73 ?_; simp only [Act.put, za, zb, zc])
   (refine AnyT.ta 8 74 ?_; simp only [Act.put, za, zb, zc])
   refine AnyT.tx 9 75 (.agg us'.toArray) (fun W hS => exec_loadMid _ _ rfl b' (off' + k * 52) rfl us' hS.2.2 Tryz.underlying159 rfl HZ'.out) ?_
   simp only [Act.put, za, zb, zc]
   ((refine AnyT.one (i := 10) (by kernel_rfl) rfl (fun K hK => ?_)))
   go_simp
   refine (sSameJob_o EX EY us us' lo hi lo' hi' w4 HR.out HR'.out (HRd.out.le 9 rfl) (HRd.out.le 3 rfl) HX.out HX'.out).mono ?_
   rintro e5 w5 ⟨rfl, hb5⟩
   go_simp
   have HQ5 := Lib.hid (QS.out _ w5 HQd.out hb5)
   have HRe := Lib.hid (QG.out _ HQ5.out)
   refine hK.out _ _ ⟨⟨(HG.out _ _ _ (HRe.out.get 1 rfl)).2.2.2.2.2.1, (HH.out _ _ _ (HRe.out.get 0 rfl)).2.2.2.2.2.1⟩, rng_below HC.out hb5 (Nat.lt_of_lt_of_le hb2 (HRd.out.le 9 rfl)), rng_below HC'.out hb5 (Nat.lt_of_lt_of_le hb2' (HRd.out.le 3 rfl))⟩ (fun hHeld => ?_)
   clear hK K hb5 HC HC'
   (try simp only [Act.put, za, zb, zc])
   (refine AnyT.ta 11 77 ?_; simp only [Act.put, za, zb, zc])
   refine AnyT.done (by kernel_rfl) ?_ _
   clear hHeld
   by_cases hxy : EX = EY
   ·have HS2 := Lib.hid (HST.out hxy)
    rw [same_t hxy]
    clear HST HNE hxy
    go_wp2_with fail
    go_roundw
    case rel => exact ⟨k + 1, by omega, by go_num, HS2, HQ5⟩
    case measure => simp [intOf]; omega
   ·have HFF := Lib.hid (HANS.out.trans (same_f (fun e => HNE.out hxy (congrArg (fun X : TyWorld => X.2.2.2.2.2.1) e))))
    rw [same_f hxy]
    clear hxy HST HNE
    go_wp2_with fail
    go_ret
    exact ⟨by rw [HFF.out]; rfl, (QG.out _ HQ5.out).1⟩
  ·obtain rfl : k = x5.length := by omega
   have he := take_all htk.out HL5.out
   clear htk HRr
   subst he
   have HR50 := Lib.hid (QG.out _ hq5.out)
   clear QS QG HQ0 hq5
   have f7 := (HG.out _ _ _ (HR50.out.get 1 rfl)).2.2.2.2.2.2.2
   have g7 := (HH.out _ _ _ (HR50.out.get 0 rfl)).2.2.2.2.2.2.2
   go_wp2_with fail
   refine (sSameBatches A7 B7 c7 d7 x7 y7 lo hi lo' hi' _ (HR50.out.get 8 rfl) (HR50.out.get 2 rfl) (HR50.out.le 8 rfl) (HR50.out.le 2 rfl) ft7 gt7).mono ?_
   rintro e7 w7 ⟨rfl, hb7⟩
   have HR51 := Lib.hid (HR50.out.below hb7)
   clear hb7 HR50  f7 g7
   by_cases hne : x7 = y7
   rotate_left
   ·rw [same_f hne]
    have HF := nf (fun X : TyWorld => X.2.2.2.2.2.2.2) HANS hne
    clear hne
    go_wp2_with fail
    go_ret
    exact ⟨by rw [HF.out]; rfl, HR51.out.1⟩
   rw [same_t hne]
   subst hne
   have HT := Lib.hid (HANS.out.trans (same_t rfl))
   go_wp2_with fail
   go_ret
   exact ⟨by rw [HT.out]; rfl, HR51.out.1⟩
theorem sSameSite_o : SmS shSite 6 := by
 intro X Y vs us lo hi lo' hi' w h h' hhi hhi' hf hf'
 obtain ⟨ANS, hANS⟩ : ∃ b, b = sameB X Y := ⟨_, rfl⟩
 rw [← hANS]
 obtain ⟨X0, X1, X2, x3, x4⟩ := X
 obtain ⟨Y0, Y1, Y2, y3, y4⟩ := Y
 obtain ⟨ft0, ft1, ft2, ft3, ft4⟩ := hf
 obtain ⟨gt0, gt1, gt2, gt3, gt4⟩ := hf'
 have HANS := Lib.hid hANS; clear hANS
 obtain ⟨u0, ru0, eu0, k0, u1, ru1, eu1, k1, u2, ru2, eu2, k2, u3, ru3, eu3, k3, k4⟩ := h
 generalize ru3 = u4 at *
 obtain rfl := (show u3 = [.int .i64 x3] from k3)
 have qk4 := k4; obtain ⟨A4, c4, rfl, _⟩ := qk4
 have HG := Lib.hid (show ∀ (W : World) (b : Nat) (t : TypeId), Blk W b t vs.toArray → W.rangeAt b 0 u0 ∧ W.rangeAt b 10 u1 ∧ W.rangeAt b 34 u2 ∧ W.cell? ⟨b, 35, none⟩ = some (.int .i64 x3) ∧ W.cell? ⟨b, 36, none⟩ = some (.slice A4 x4.length c4) from fun W b t hB => by
  have q := blk_all hB
  obtain ⟨p0, q⟩ := rsp eu0 (shWorld.R_len k0) q
  obtain ⟨p1, q⟩ := rsp eu1 (shBase.R_len k1) q
  obtain ⟨p2, q⟩ := rsp eu2 (shTree.R_len k2) q
  obtain ⟨p3, q⟩ := rsp eu3 rfl q
  exact ⟨p0, p1, p2, rng_one p3, rng_one q⟩)
 clear eu0 eu1 eu2 eu3
 obtain ⟨v0, rv0, ev0, l0, v1, rv1, ev1, l1, v2, rv2, ev2, l2, v3, rv3, ev3, l3, l4⟩ := h'
 generalize rv3 = v4 at *
 obtain rfl := (show v3 = [.int .i64 y3] from l3)
 have ql4 := l4; obtain ⟨B4, d4, rfl, _⟩ := ql4
 have HH := Lib.hid (show ∀ (W : World) (b : Nat) (t : TypeId), Blk W b t us.toArray → W.rangeAt b 0 v0 ∧ W.rangeAt b 10 v1 ∧ W.rangeAt b 34 v2 ∧ W.cell? ⟨b, 35, none⟩ = some (.int .i64 y3) ∧ W.cell? ⟨b, 36, none⟩ = some (.slice B4 y4.length d4) from fun W b t hB => by
  have q := blk_all hB
  obtain ⟨p0, q⟩ := rsp ev0 (shWorld.R_len l0) q
  obtain ⟨p1, q⟩ := rsp ev1 (shBase.R_len l1) q
  obtain ⟨p2, q⟩ := rsp ev2 (shTree.R_len l2) q
  obtain ⟨p3, q⟩ := rsp ev3 rfl q
  exact ⟨p0, p1, p2, rng_one p3, rng_one q⟩)
 clear ev0 ev1 ev2 ev3
 have R0 := (((((((((((Stand.nil w).ad shWorld.R u0 X0 hhi k0 shWorld.R_keep).ad shBase.R u1 X1 hhi k1 shBase.R_keep).ad shTree.R u2 X2 hhi k2 shTree.R_keep).ad (Sh.row 167 shBatch).R [.slice A4 x4.length c4] x4 hhi k4 (Sh.row 167 shBatch).R_keep).ad shWorld.R v0 Y0 hhi' l0 shWorld.R_keep).ad shBase.R v1 Y1 hhi' l1 shBase.R_keep).ad shTree.R v2 Y2 hhi' l2 shTree.R_keep).ad (Sh.row 167 shBatch).R [.slice B4 y4.length d4] y4 hhi' l4 (Sh.row 167 shBatch).R_keep).box 91 vs.toArray).box 91 us.toArray)
 rw [heap_alloc_size1] at R0
 have HR0 := Lib.hid R0
 have HZ0 := slH sizeIWorld k0
 have HY0 := slH sizeIWorld l0
 have HZ1 := slH sizeIBase k1
 have HY1 := slH sizeIBase l1
 have HZ2 := slH sizeITree k2
 have HY2 := slH sizeITree l2
 clear R0 k0 l0 k1 l1 k2 l2 k4 l4
 go_enter Tryz.func6, Tryz.ntmps6
 go_wp2_with (first | fail | (refine wlg w.heap.size 0 u0 (HG.out _ _ _ (HR0.out.get 1 rfl)).1 Tryz.underlying74 HZ0.out ?_) | (refine wlg (w.heap.size + 1) 0 v0 (HH.out _ _ _ (HR0.out.get 0 rfl)).1 Tryz.underlying74 HY0.out ?_))
 refine (sSameWorld_o X0 Y0 u0 v0 lo hi lo' hi' _ (HR0.out.get 9 rfl) (HR0.out.get 5 rfl) (HR0.out.le 9 rfl) (HR0.out.le 5 rfl) ft0 gt0).mono ?_
 rintro e0 w0 ⟨rfl, hb0⟩
 have HR1 := Lib.hid (HR0.out.below hb0)
 clear hb0 HR0  
 by_cases hne : X0 = Y0
 rotate_left
 ·rw [same_f hne]
  have HF := nf (fun X : TySite => X.1) HANS hne
  clear hne
  go_wp2_with fail
  go_ret
  exact ⟨by rw [HF.out]; rfl, HR1.out.1⟩
 rw [same_t hne]
 subst hne
 go_wp2_with (first | fail | (refine wlg w.heap.size 10 u1 (HG.out _ _ _ (HR1.out.get 1 rfl)).2.1 Tryz.underlying89 HZ1.out ?_) | (refine wlg (w.heap.size + 1) 10 v1 (HH.out _ _ _ (HR1.out.get 0 rfl)).2.1 Tryz.underlying89 HY1.out ?_))
 refine (sSameBase_o X1 Y1 u1 v1 lo hi lo' hi' _ (HR1.out.get 8 rfl) (HR1.out.get 4 rfl) (HR1.out.le 8 rfl) (HR1.out.le 4 rfl) ft1 gt1).mono ?_
 rintro e1 w1 ⟨rfl, hb1⟩
 have HR2 := Lib.hid (HR1.out.below hb1)
 clear hb1 HR1  
 by_cases hne : X1 = Y1
 rotate_left
 ·rw [same_f hne]
  have HF := nf (fun X : TySite => X.2.1) HANS hne
  clear hne
  go_wp2_with fail
  go_ret
  exact ⟨by rw [HF.out]; rfl, HR2.out.1⟩
 rw [same_t hne]
 subst hne
 go_wp2_with (first | fail | (refine wlg w.heap.size 34 u2 (HG.out _ _ _ (HR2.out.get 1 rfl)).2.2.1 Tryz.underlying66 HZ2.out ?_) | (refine wlg (w.heap.size + 1) 34 v2 (HH.out _ _ _ (HR2.out.get 0 rfl)).2.2.1 Tryz.underlying66 HY2.out ?_))
 refine (sSameTree_o X2 Y2 u2 v2 lo hi lo' hi' _ (HR2.out.get 7 rfl) (HR2.out.get 3 rfl) (HR2.out.le 7 rfl) (HR2.out.le 3 rfl) ft2 gt2).mono ?_
 rintro e2 w2 ⟨rfl, hb2⟩
 have HR3 := Lib.hid (HR2.out.below hb2)
 clear hb2 HR2  
 by_cases hne : X2 = Y2
 rotate_left
 ·rw [same_f hne]
  have HF := nf (fun X : TySite => X.2.2.1) HANS hne
  clear hne
  go_wp2_with fail
  go_ret
  exact ⟨by rw [HF.out]; rfl, HR3.out.1⟩
 rw [same_t hne]
 subst hne
 have f3 := (HG.out _ _ _ (HR3.out.get 1 rfl)).2.2.2.1
 have g3 := (HH.out _ _ _ (HR3.out.get 0 rfl)).2.2.2.1
 have f4 := (HG.out _ _ _ (HR3.out.get 1 rfl)).2.2.2.2
 have g4 := (HH.out _ _ _ (HR3.out.get 0 rfl)).2.2.2.2
 by_cases hne : x3 = y3
 rotate_left
 ·have HF := nf (fun X : TySite => X.2.2.2.1) HANS hne
  have hq : (x3 == y3) = false := beq_eq_false_iff_ne.2 hne
  clear hne
  go_wp2_with fail
  go_ret
  exact ⟨by rw [HF.out]; rfl, HR3.out.1⟩
 subst hne
 go_wp2_with fail
 refine (sSameBatches A4 B4 c4 d4 x4 y4 lo hi lo' hi' _ (HR3.out.get 6 rfl) (HR3.out.get 2 rfl) (HR3.out.le 6 rfl) (HR3.out.le 2 rfl) ft4 gt4).mono ?_
 rintro e4 w4 ⟨rfl, hb4⟩
 have HR4 := Lib.hid (HR3.out.below hb4)
 clear hb4 HR3  f3 g3 f4 g4
 by_cases hne : x4 = y4
 rotate_left
 ·rw [same_f hne]
  have HF := nf (fun X : TySite => X.2.2.2.2) HANS hne
  clear hne
  go_wp2_with fail
  go_ret
  exact ⟨by rw [HF.out]; rfl, HR4.out.1⟩
 rw [same_t hne]
 subst hne
 have HT := Lib.hid (HANS.out.trans (same_t rfl))
 go_wp2_with fail
 go_ret
 exact ⟨by rw [HT.out]; rfl, HR4.out.1⟩
end Go.Proofs.YtgnmollbnopigaaGreat
