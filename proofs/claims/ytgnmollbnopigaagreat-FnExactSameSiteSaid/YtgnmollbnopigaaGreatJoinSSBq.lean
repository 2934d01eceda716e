/- Comparisons, both sides. Printed by gen_same2.py. -/
import Derived.Test.YtgnmollbnopigaaGreatJoinSSBl
set_option maxHeartbeats 16000000
set_option maxRecDepth 100000
namespace Go.Proofs.YtgnmollbnopigaaGreat
open Go.RowKit
theorem sSameDisk_o : SmS shDisk 118 := by
 intro X Y vs us lo hi lo' hi' w h h' hhi hhi' hf hf'
 obtain ⟨ANS, hANS⟩ : ∃ b, b = sameB X Y := ⟨_, rfl⟩
 rw [← hANS]
 obtain ⟨x0, x1, x2⟩ := X
 obtain ⟨y0, y1, y2⟩ := Y
 obtain ⟨ft0, ft1, ft2⟩ := hf
 obtain ⟨gt0, gt1, gt2⟩ := hf'
 have HANS := Lib.hid hANS; clear hANS
 obtain ⟨u0, ru0, eu0, k0, u1, ru1, eu1, k1, k2⟩ := h
 generalize ru1 = u2 at *
 obtain rfl := (show u0 = [.int .i64 x0] from k0)
 have qk1 := k1; obtain ⟨A1, c1, rfl, _⟩ := qk1
 have qk2 := k2; obtain ⟨A2, c2, rfl, _⟩ := qk2
 have HG := Lib.hid (show ∀ (W : World) (b : Nat) (t : TypeId), Blk W b t vs.toArray → W.cell? ⟨b, 0, none⟩ = some (.int .i64 x0) ∧ W.cell? ⟨b, 1, none⟩ = some (.slice A1 x1.length c1) ∧ W.cell? ⟨b, 2, none⟩ = some (.slice A2 x2.length c2) from fun W b t hB => by
  have q := blk_all hB
  obtain ⟨p0, q⟩ := rsp eu0 rfl q
  obtain ⟨p1, q⟩ := rsp eu1 rfl q
  exact ⟨rng_one p0, rng_one p1, rng_one q⟩)
 clear eu0 eu1
 obtain ⟨v0, rv0, ev0, l0, v1, rv1, ev1, l1, l2⟩ := h'
 generalize rv1 = v2 at *
 obtain rfl := (show v0 = [.int .i64 y0] from l0)
 have ql1 := l1; obtain ⟨B1, d1, rfl, _⟩ := ql1
 have ql2 := l2; obtain ⟨B2, d2, rfl, _⟩ := ql2
 have HH := Lib.hid (show ∀ (W : World) (b : Nat) (t : TypeId), Blk W b t us.toArray → W.cell? ⟨b, 0, none⟩ = some (.int .i64 y0) ∧ W.cell? ⟨b, 1, none⟩ = some (.slice B1 y1.length d1) ∧ W.cell? ⟨b, 2, none⟩ = some (.slice B2 y2.length d2) from fun W b t hB => by
  have q := blk_all hB
  obtain ⟨p0, q⟩ := rsp ev0 rfl q
  obtain ⟨p1, q⟩ := rsp ev1 rfl q
  exact ⟨rng_one p0, rng_one p1, rng_one q⟩)
 clear ev0 ev1
 have R0 := (((((((Stand.nil w).ad (Sh.row 9 shS).R [.slice A1 x1.length c1] x1 hhi k1 (Sh.row 9 shS).R_keep).ad (Sh.row 306 shPut).R [.slice A2 x2.length c2] x2 hhi k2 (Sh.row 306 shPut).R_keep).ad (Sh.row 9 shS).R [.slice B1 y1.length d1] y1 hhi' l1 (Sh.row 9 shS).R_keep).ad (Sh.row 306 shPut).R [.slice B2 y2.length d2] y2 hhi' l2 (Sh.row 306 shPut).R_keep).box 80 vs.toArray).box 80 us.toArray)
 rw [heap_alloc_size1] at R0
 have HR0 := Lib.hid R0
 clear R0 k1 l1 k2 l2
 go_enter Tryz.func118, Tryz.ntmps118
 have f0 := (HG.out _ _ _ (HR0.out.get 1 rfl)).1
 have g0 := (HH.out _ _ _ (HR0.out.get 0 rfl)).1
 have f1 := (HG.out _ _ _ (HR0.out.get 1 rfl)).2.1
 have g1 := (HH.out _ _ _ (HR0.out.get 0 rfl)).2.1
 by_cases hne : x0 = y0
 rotate_left
 ·have HF := nf (fun X : TyDisk => X.1) HANS hne
  have hq : (x0 == y0) = false := beq_eq_false_iff_ne.2 hne
  have hq2 : (x0 != y0) = true := by simp [hq, bne]
  clear hne
  go_wp2_with fail
  go_ret
  exact ⟨by rw [HF.out]; rfl, HR0.out.1⟩
 subst hne
 go_wp2_with fail
 refine (sameSubs_r A1 B1 c1 d1 x1 y1 lo hi lo' hi' _ (HR0.out.get 5 rfl) (HR0.out.get 3 rfl) (HR0.out.le 5 rfl) (HR0.out.le 3 rfl) ft1.1 gt1.1).mono ?_
 rintro e1 w1 ⟨rfl, hb1⟩
 have HR1 := Lib.hid (HR0.out.below hb1)
 clear hb1 HR0 f0 g0 f1 g1
 by_cases hne : x1 = y1
 rotate_left
 ·rw [same_f hne]
  have HF := nf (fun X : TyDisk => X.2.1) HANS hne
  clear hne
  go_wp2_with fail
  go_ret
  exact ⟨by rw [HF.out]; rfl, HR1.out.1⟩
 rw [same_t hne]
 subst hne
 have f2 := (HG.out _ _ _ (HR1.out.get 1 rfl)).2.2
 have g2 := (HH.out _ _ _ (HR1.out.get 0 rfl)).2.2
 by_cases hne : x2.length = y2.length
 rotate_left
 ·have HF := nf (fun X : TyDisk => (X.2.2).length) HANS hne
  have n1 : ((x2.length : Int) == (y2.length : Int)) = false := by rw [beq_eq_false_iff_ne]; omega
  have n2 : ((x2.length : Int) != (y2.length : Int)) = true := by rw [bne_iff_ne]; omega
  clear hne
  go_wp2_with fail
  go_ret
  exact ⟨by rw [HF.out]; rfl, HR1.out.1⟩
 have HL2 := Lib.hid hne
 have m2 : ((x2.length : Int) == (y2.length : Int)) = true := by rw [beq_iff_eq]; omega
 have n2 : ((x2.length : Int) != (y2.length : Int)) = false := by rw [hne]; simp
 clear hne
 go_wp2_with fail
 obtain ⟨Q, q0, qs, qg⟩ := HR1.out.veilQ
 have HQ0 := Lib.hid q0; have QS := Lib.hid qs; have QG := Lib.hid qg
 clear q0 qs qg HR1 f2 g2 m2 n2
 have hn2 := ft2.1
 go_loopw [5] (fun i wr => ∃ k : Nat, k ≤ x2.length ∧ i = .int .i64 k ∧ Hid (x2.take k = y2.take k) ∧ Hid (Q wr)) (fun i _ => x2.length - (intOf i).toNat)
 case atStart => exact ⟨0, Nat.zero_le _, rfl, Lib.hid rfl, HQ0⟩
 case round =>
  obtain ⟨k, hk, rfl, htk, hq2⟩ := hrel
  have HRr := Lib.hid (QG.out _ hq2.out)
  have f2 := (HG.out _ _ _ (HRr.out.get 1 rfl)).2.2
  have g2 := (HH.out _ _ _ (HRr.out.get 0 rfl)).2.2
  by_cases hlt : k < x2.length
  ·have hly : k < y2.length := by have := HL2.out; omega
   obtain ⟨b, off, rfl, hb1, hb2, us, hc, hX⟩ := row_at (HRr.out.get 4 rfl) hlt
   obtain ⟨b', off', rfl, hb1', hb2', us', hc', hX'⟩ := row_at (HRr.out.get 2 rfl) hly
   have HST := Lib.hid (fun he => take_step (d := shPut.d) htk.out hlt HL2.out he)
   have HNE := Lib.hid (fun he => ne_at (xs := x2) (ys := y2) (d := shPut.d) (k := k) he)
   generalize x2.getD k shPut.d = EX at *
   generalize y2.getD k shPut.d = EY at *
   obtain ⟨p0, p1⟩ := EX
   obtain ⟨q0, q1⟩ := EY
   obtain rfl : us = [.int .i64 p0, .string p1] := shPut_R.1 hX
   obtain rfl : us' = [.int .i64 q0, .string q1] := shPut_R.1 hX'
   have HC := Lib.hid (show wr.drew.rangeAt b (off + k * 2) [.int .i64 p0, .string p1] from rng_of hc); have HC' := Lib.hid (show wr.drew.rangeAt b' (off' + k * 2) [.int .i64 q0, .string q1] from rng_of hc')
   have HZ := slH sizeIPut hX; have HZ' := slH sizeIPut hX'
   have HQd := Lib.hid (QS.out _ wr.drew hq2.out (below_drewN' wr 1))
   have HRd := Lib.hid (QG.out _ HQd.out)
   have HF1 := Lib.hid (show wr.drew.cell? _ = _ from (HG.out _ _ _ (HRd.out.get 1 rfl)).2.2); have HF2 := Lib.hid (show wr.drew.cell? _ = _ from (HH.out _ _ _ (HRd.out.get 0 rfl)).2.2)
   clear hX hX' hc hc' htk HRr
   go_upto_region 6 with fail
   clear f2 g2
   refine AnyT.region (fun _ => false) (fun W => (W.cell? ⟨w.heap.size, 2, none⟩ = some (.slice (some ⟨b, off, none⟩) x2.length c2) ∧ W.cell? ⟨w.heap.size + 1, 2, none⟩ = some (.slice (some ⟨b', off', none⟩) y2.length d2)) ∧ W.rangeAt b (off + k * 2) [.int .i64 p0, .string p1] ∧ W.rangeAt b' (off' + k * 2) [.int .i64 q0, .string q1]) (by kernel_rfl) ⟨⟨HF1.out, HF2.out⟩, HC.out, HC'.out⟩ (fun hHeld => ?_)
   generalize wr.drew = w4 at *
   (refine AnyT.ta 0 35 ?_; simp only [Act.put, za, zb, zc])
   (refine AnyT.tk 1 36 ?_; simp only [Act.put, za, zb, zc])
   (refine AnyT.ta 2 37 ?_; simp only [Act.put, za, zb, zc])
   (refine AnyT.ta 3 38 ?_; simp only [Act.put, za, zb, zc])
   refine AnyT.tx 4 39 (.agg ([.int .i64 p0, .string p1] : List Value).toArray) (fun W hS => exec_loadMid _ _ rfl b (off + k * 2) rfl _ hS.2.1 Tryz.underlying306 rfl HZ.out) ?_
   simp only [Act.put, za, zb, zc]
   (refine AnyT.ta 5 40 ?_; simp only [Act.put, za, zb, zc])
   (refine AnyT.tk 6 41 ?_; simp only [Act.put, za, zb, zc])
   (refine AnyT.ta 7 42 ?_; simp only [Act.put, za, zb, zc])
   (refine AnyT.ta 8 43 ?_; simp only [Act.put, za, zb, zc])
   refine AnyT.tx 9 44 (.agg ([.int .i64 q0, .string q1] : List Value).toArray) (fun W hS => exec_loadMid _ _ rfl b' (off' + k * 2) rfl _ hS.2.2 Tryz.underlying306 rfl HZ'.out) ?_
   simp only [Act.put, za, zb, zc]
   refine AnyT.takeAny 10 45 (.bool (!sameB (p0, p1) (q0, q1))) rfl (by kernel_rfl) (by kernel_rfl) (by kernel_rfl) rfl rfl (fun _ _ _ _ h => h) rfl (fun W => exec_neq rfl rfl rfl (by kernel_rfl) (fun w => equalPut _ _ _ _ w)) (by assumption) ?_
   simp only [Act.put, za, zb, zc]
   have HQ5 := HQd
   refine AnyT.done (by kernel_rfl) ?_ _
   clear hHeld
   by_cases hxy : (p0, p1) = (q0, q1)
   ·have HS2 := Lib.hid (HST.out hxy)
    rw [same_t hxy]
    clear HST HNE hxy
    go_wp2_with fail
    go_roundw
    case rel => exact ⟨k + 1, by omega, by go_num, HS2, HQ5⟩
    case measure => simp [intOf]; omega
   ·have HFF := Lib.hid (HANS.out.trans (same_f (fun e => HNE.out hxy (congrArg (fun X : TyDisk => X.2.2) e))))
    rw [same_f hxy]
    clear hxy HST HNE
    go_wp2_with fail
    go_ret
    exact ⟨by rw [HFF.out]; rfl, (QG.out _ HQ5.out).1⟩
  ·obtain rfl : k = x2.length := by omega
   have he := take_all htk.out HL2.out
   clear htk HRr
   subst he
   have HT := Lib.hid (HANS.out.trans (same_t rfl))
   go_wp2_with fail
   go_ret
   exact ⟨by rw [HT.out]; rfl, (QG.out _ hq2.out).1⟩
theorem l20SameJournal_o : SmS shJournal 60 := by
 intro X Y vs us lo hi lo' hi' w h h' hhi hhi' hf hf'
 obtain ⟨ANS, hANS⟩ : ∃ b, b = sameB X Y := ⟨_, rfl⟩
 rw [← hANS]
 obtain ⟨X0, x1, x2, x3, x4⟩ := X
 obtain ⟨Y0, y1, y2, y3, y4⟩ := Y
 obtain ⟨ft0, ft1, ft2, ft3, ft4⟩ := hf
 obtain ⟨gt0, gt1, gt2, gt3, gt4⟩ := hf'
 have HANS := Lib.hid hANS; clear hANS
 obtain ⟨u0, ru0, eu0, k0, u1, ru1, eu1, k1, u2, ru2, eu2, k2, u3, ru3, eu3, k3, k4⟩ := h
 generalize ru3 = u4 at *
 obtain rfl := (show u1 = [.int .i64 x1] from k1)
 obtain rfl := (show u2 = [.int .i64 x2] from k2)
 obtain rfl := (show u3 = [.int .i64 x3] from k3)
 obtain rfl := (show u4 = [.int .i64 x4] from k4)
 have HG := Lib.hid (show ∀ (W : World) (b : Nat) (t : TypeId), Blk W b t vs.toArray → W.rangeAt b 0 u0 ∧ W.cell? ⟨b, 3, none⟩ = some (.int .i64 x1) ∧ W.cell? ⟨b, 4, none⟩ = some (.int .i64 x2) ∧ W.cell? ⟨b, 5, none⟩ = some (.int .i64 x3) ∧ W.cell? ⟨b, 6, none⟩ = some (.int .i64 x4) from fun W b t hB => by
  have q := blk_all hB
  obtain ⟨p0, q⟩ := rsp eu0 (shDisk.R_len k0) q
  obtain ⟨p1, q⟩ := rsp eu1 rfl q
  obtain ⟨p2, q⟩ := rsp eu2 rfl q
  obtain ⟨p3, q⟩ := rsp eu3 rfl q
  exact ⟨p0, rng_one p1, rng_one p2, rng_one p3, rng_one q⟩)
 clear eu0 eu1 eu2 eu3
 obtain ⟨v0, rv0, ev0, l0, v1, rv1, ev1, l1, v2, rv2, ev2, l2, v3, rv3, ev3, l3, l4⟩ := h'
 generalize rv3 = v4 at *
 obtain rfl := (show v1 = [.int .i64 y1] from l1)
 obtain rfl := (show v2 = [.int .i64 y2] from l2)
 obtain rfl := (show v3 = [.int .i64 y3] from l3)
 obtain rfl := (show v4 = [.int .i64 y4] from l4)
 have HH := Lib.hid (show ∀ (W : World) (b : Nat) (t : TypeId), Blk W b t us.toArray → W.rangeAt b 0 v0 ∧ W.cell? ⟨b, 3, none⟩ = some (.int .i64 y1) ∧ W.cell? ⟨b, 4, none⟩ = some (.int .i64 y2) ∧ W.cell? ⟨b, 5, none⟩ = some (.int .i64 y3) ∧ W.cell? ⟨b, 6, none⟩ = some (.int .i64 y4) from fun W b t hB => by
  have q := blk_all hB
  obtain ⟨p0, q⟩ := rsp ev0 (shDisk.R_len l0) q
  obtain ⟨p1, q⟩ := rsp ev1 rfl q
  obtain ⟨p2, q⟩ := rsp ev2 rfl q
  obtain ⟨p3, q⟩ := rsp ev3 rfl q
  exact ⟨p0, rng_one p1, rng_one p2, rng_one p3, rng_one q⟩)
 clear ev0 ev1 ev2 ev3
 have R0 := (((((Stand.nil w).ad shDisk.R u0 X0 hhi k0 shDisk.R_keep).ad shDisk.R v0 Y0 hhi' l0 shDisk.R_keep).box 87 vs.toArray).box 87 us.toArray)
 rw [heap_alloc_size1] at R0
 have HR0 := Lib.hid R0
 have HZ0 := slH sizeIDisk k0
 have HY0 := slH sizeIDisk l0
 clear R0 k0 l0
 go_enter Tryz.func60, Tryz.ntmps60
 go_wp2_with (first | fail | (refine wlg w.heap.size 0 u0 (HG.out _ _ _ (HR0.out.get 1 rfl)).1 Tryz.underlying80 HZ0.out ?_) | (refine wlg (w.heap.size + 1) 0 v0 (HH.out _ _ _ (HR0.out.get 0 rfl)).1 Tryz.underlying80 HY0.out ?_))
 refine (sSameDisk_o X0 Y0 u0 v0 lo hi lo' hi' _ (HR0.out.get 3 rfl) (HR0.out.get 2 rfl) (HR0.out.le 3 rfl) (HR0.out.le 2 rfl) ft0 gt0).mono ?_
 rintro e0 w0 ⟨rfl, hb0⟩
 have HR1 := Lib.hid (HR0.out.below hb0)
 clear hb0 HR0  
 by_cases hne : X0 = Y0
 rotate_left
 ·rw [same_f hne]
  have HF := nf (fun X : TyJournal => X.1) HANS hne
  clear hne
  go_wp2_with fail
  go_ret
  exact ⟨by rw [HF.out]; rfl, HR1.out.1⟩
 rw [same_t hne]
 subst hne
 have f1 := (HG.out _ _ _ (HR1.out.get 1 rfl)).2.1
 have g1 := (HH.out _ _ _ (HR1.out.get 0 rfl)).2.1
 have f2 := (HG.out _ _ _ (HR1.out.get 1 rfl)).2.2.1
 have g2 := (HH.out _ _ _ (HR1.out.get 0 rfl)).2.2.1
 have f3 := (HG.out _ _ _ (HR1.out.get 1 rfl)).2.2.2.1
 have g3 := (HH.out _ _ _ (HR1.out.get 0 rfl)).2.2.2.1
 have f4 := (HG.out _ _ _ (HR1.out.get 1 rfl)).2.2.2.2
 have g4 := (HH.out _ _ _ (HR1.out.get 0 rfl)).2.2.2.2
 by_cases hne : x1 = y1
 rotate_left
 ·have HF := nf (fun X : TyJournal => X.2.1) HANS hne
  have hq : (x1 == y1) = false := beq_eq_false_iff_ne.2 hne
  clear hne
  go_wp2_with fail
  go_ret
  exact ⟨by rw [HF.out]; rfl, HR1.out.1⟩
 subst hne
 by_cases hne : x2 = y2
 rotate_left
 ·have HF := nf (fun X : TyJournal => X.2.2.1) HANS hne
  have hq : (x2 == y2) = false := beq_eq_false_iff_ne.2 hne
  clear hne
  go_wp2_with fail
  go_ret
  exact ⟨by rw [HF.out]; rfl, HR1.out.1⟩
 subst hne
 by_cases hne : x3 = y3
 rotate_left
 ·have HF := nf (fun X : TyJournal => X.2.2.2.1) HANS hne
  have hq : (x3 == y3) = false := beq_eq_false_iff_ne.2 hne
  clear hne
  go_wp2_with fail
  go_ret
  exact ⟨by rw [HF.out]; rfl, HR1.out.1⟩
 subst hne
 by_cases hne : x4 = y4
 rotate_left
 ·have HF := nf (fun X : TyJournal => X.2.2.2.2) HANS hne
  have hq : (x4 == y4) = false := beq_eq_false_iff_ne.2 hne
  clear hne
  go_wp2_with fail
  go_ret
  exact ⟨by rw [HF.out]; rfl, HR1.out.1⟩
 subst hne
 have HT := Lib.hid (HANS.out.trans (same_t rfl))
 go_wp2_with fail
 go_ret
 exact ⟨by rw [HT.out]; rfl, HR1.out.1⟩
theorem l20SameCache_o : SmS shCache 59 := by
 intro X Y vs us lo hi lo' hi' w h h' hhi hhi' hf hf'
 obtain ⟨ANS, hANS⟩ : ∃ b, b = sameB X Y := ⟨_, rfl⟩
 rw [← hANS]
 obtain ⟨X0, X1, X2, x3, x4⟩ := X
 obtain ⟨Y0, Y1, Y2, y3, y4⟩ := Y
 obtain ⟨ft0, ft1, ft2, ft3, ft4⟩ := hf
 obtain ⟨gt0, gt1, gt2, gt3, gt4⟩ := hf'
 have HANS := Lib.hid hANS; clear hANS
 obtain ⟨u0, ru0, eu0, k0, u1, ru1, eu1, k1, u2, ru2, eu2, k2, u3, ru3, eu3, k3, k4⟩ := h
 generalize ru3 = u4 at *
 have qk3 := k3; obtain ⟨A3, c3, rfl, _⟩ := qk3
 have qk4 := k4; obtain ⟨A4, c4, rfl, _⟩ := qk4
 have HG := Lib.hid (show ∀ (W : World) (b : Nat) (t : TypeId), Blk W b t vs.toArray → W.rangeAt b 0 u0 ∧ W.rangeAt b 3 u1 ∧ W.rangeAt b 7 u2 ∧ W.cell? ⟨b, 11, none⟩ = some (.slice A3 x3.length c3) ∧ W.cell? ⟨b, 12, none⟩ = some (.slice A4 x4.length c4) from fun W b t hB => by
  have q := blk_all hB
  obtain ⟨p0, q⟩ := rsp eu0 (shDisk.R_len k0) q
  obtain ⟨p1, q⟩ := rsp eu1 (shTop.R_len k1) q
  obtain ⟨p2, q⟩ := rsp eu2 (shTop.R_len k2) q
  obtain ⟨p3, q⟩ := rsp eu3 rfl q
  exact ⟨p0, p1, p2, rng_one p3, rng_one q⟩)
 clear eu0 eu1 eu2 eu3
 obtain ⟨v0, rv0, ev0, l0, v1, rv1, ev1, l1, v2, rv2, ev2, l2, v3, rv3, ev3, l3, l4⟩ := h'
 generalize rv3 = v4 at *
 have ql3 := l3; obtain ⟨B3, d3, rfl, _⟩ := ql3
 have ql4 := l4; obtain ⟨B4, d4, rfl, _⟩ := ql4
 have HH := Lib.hid (show ∀ (W : World) (b : Nat) (t : TypeId), Blk W b t us.toArray → W.rangeAt b 0 v0 ∧ W.rangeAt b 3 v1 ∧ W.rangeAt b 7 v2 ∧ W.cell? ⟨b, 11, none⟩ = some (.slice B3 y3.length d3) ∧ W.cell? ⟨b, 12, none⟩ = some (.slice B4 y4.length d4) from fun W b t hB => by
  have q := blk_all hB
  obtain ⟨p0, q⟩ := rsp ev0 (shDisk.R_len l0) q
  obtain ⟨p1, q⟩ := rsp ev1 (shTop.R_len l1) q
  obtain ⟨p2, q⟩ := rsp ev2 (shTop.R_len l2) q
  obtain ⟨p3, q⟩ := rsp ev3 rfl q
  exact ⟨p0, p1, p2, rng_one p3, rng_one q⟩)
 clear ev0 ev1 ev2 ev3
 have R0 := (((((((((((((Stand.nil w).ad shDisk.R u0 X0 hhi k0 shDisk.R_keep).ad shTop.R u1 X1 hhi k1 shTop.R_keep).ad shTop.R u2 X2 hhi k2 shTop.R_keep).ad (Sh.row 273 shSeat).R [.slice A3 x3.length c3] x3 hhi k3 (Sh.row 273 shSeat).R_keep).ad (Sh.row 2 shI).R [.slice A4 x4.length c4] x4 hhi k4 (Sh.row 2 shI).R_keep).ad shDisk.R v0 Y0 hhi' l0 shDisk.R_keep).ad shTop.R v1 Y1 hhi' l1 shTop.R_keep).ad shTop.R v2 Y2 hhi' l2 shTop.R_keep).ad (Sh.row 273 shSeat).R [.slice B3 y3.length d3] y3 hhi' l3 (Sh.row 273 shSeat).R_keep).ad (Sh.row 2 shI).R [.slice B4 y4.length d4] y4 hhi' l4 (Sh.row 2 shI).R_keep).box 85 vs.toArray).box 85 us.toArray)
 rw [heap_alloc_size1] at R0
 have HR0 := Lib.hid R0
 have HZ0 := slH sizeIDisk k0
 have HY0 := slH sizeIDisk l0
 have HZ1 := slH sizeITop k1
 have HY1 := slH sizeITop l1
 have HZ2 := slH sizeITop k2
 have HY2 := slH sizeITop l2
 clear R0 k0 l0 k1 l1 k2 l2 k3 l3 k4 l4
 go_enter Tryz.func59, Tryz.ntmps59
 go_wp2_with (first | fail | (refine wlg w.heap.size 0 u0 (HG.out _ _ _ (HR0.out.get 1 rfl)).1 Tryz.underlying80 HZ0.out ?_) | (refine wlg (w.heap.size + 1) 0 v0 (HH.out _ _ _ (HR0.out.get 0 rfl)).1 Tryz.underlying80 HY0.out ?_))
 refine (sSameDisk_o X0 Y0 u0 v0 lo hi lo' hi' _ (HR0.out.get 11 rfl) (HR0.out.get 6 rfl) (HR0.out.le 11 rfl) (HR0.out.le 6 rfl) ft0 gt0).mono ?_
 rintro e0 w0 ⟨rfl, hb0⟩
 have HR1 := Lib.hid (HR0.out.below hb0)
 clear hb0 HR0  
 by_cases hne : X0 = Y0
 rotate_left
 ·rw [same_f hne]
  have HF := nf (fun X : TyCache => X.1) HANS hne
  clear hne
  go_wp2_with fail
  go_ret
  exact ⟨by rw [HF.out]; rfl, HR1.out.1⟩
 rw [same_t hne]
 subst hne
 go_wp2_with (first | fail | (refine wlg w.heap.size 3 u1 (HG.out _ _ _ (HR1.out.get 1 rfl)).2.1 Tryz.underlying83 HZ1.out ?_) | (refine wlg (w.heap.size + 1) 3 v1 (HH.out _ _ _ (HR1.out.get 0 rfl)).2.1 Tryz.underlying83 HY1.out ?_))
 refine (l20SameTop_o X1 Y1 u1 v1 lo hi lo' hi' _ (HR1.out.get 10 rfl) (HR1.out.get 5 rfl) (HR1.out.le 10 rfl) (HR1.out.le 5 rfl) ft1 gt1).mono ?_
 rintro e1 w1 ⟨rfl, hb1⟩
 have HR2 := Lib.hid (HR1.out.below hb1)
 clear hb1 HR1  
 by_cases hne : X1 = Y1
 rotate_left
 ·rw [same_f hne]
  have HF := nf (fun X : TyCache => X.2.1) HANS hne
  clear hne
  go_wp2_with fail
  go_ret
  exact ⟨by rw [HF.out]; rfl, HR2.out.1⟩
 rw [same_t hne]
 subst hne
 go_wp2_with (first | fail | (refine wlg w.heap.size 7 u2 (HG.out _ _ _ (HR2.out.get 1 rfl)).2.2.1 Tryz.underlying83 HZ2.out ?_) | (refine wlg (w.heap.size + 1) 7 v2 (HH.out _ _ _ (HR2.out.get 0 rfl)).2.2.1 Tryz.underlying83 HY2.out ?_))
 refine (l20SameTop_o X2 Y2 u2 v2 lo hi lo' hi' _ (HR2.out.get 9 rfl) (HR2.out.get 4 rfl) (HR2.out.le 9 rfl) (HR2.out.le 4 rfl) ft2 gt2).mono ?_
 rintro e2 w2 ⟨rfl, hb2⟩
 have HR3 := Lib.hid (HR2.out.below hb2)
 clear hb2 HR2  
 by_cases hne : X2 = Y2
 rotate_left
 ·rw [same_f hne]
  have HF := nf (fun X : TyCache => X.2.2.1) HANS hne
  clear hne
  go_wp2_with fail
  go_ret
  exact ⟨by rw [HF.out]; rfl, HR3.out.1⟩
 rw [same_t hne]
 subst hne
 have f3 := (HG.out _ _ _ (HR3.out.get 1 rfl)).2.2.2.1
 have g3 := (HH.out _ _ _ (HR3.out.get 0 rfl)).2.2.2.1
 go_wp2_with fail
 refine (l20SameSeats_r A3 B3 c3 d3 x3 y3 lo hi lo' hi' _ (HR3.out.get 8 rfl) (HR3.out.get 3 rfl) (HR3.out.le 8 rfl) (HR3.out.le 3 rfl) ft3.1 gt3.1).mono ?_
 rintro e3 w3 ⟨rfl, hb3⟩
 have HR4 := Lib.hid (HR3.out.below hb3)
 clear hb3 HR3  f3 g3
 by_cases hne : x3 = y3
 rotate_left
 ·rw [same_f hne]
  have HF := nf (fun X : TyCache => X.2.2.2.1) HANS hne
  clear hne
  go_wp2_with fail
  go_ret
  exact ⟨by rw [HF.out]; rfl, HR4.out.1⟩
 rw [same_t hne]
 subst hne
 have f4 := (HG.out _ _ _ (HR4.out.get 1 rfl)).2.2.2.2
 have g4 := (HH.out _ _ _ (HR4.out.get 0 rfl)).2.2.2.2
 go_wp2_with fail
 refine (l00Same_r A4 B4 c4 d4 x4 y4 lo hi lo' hi' _ (HR4.out.get 7 rfl) (HR4.out.get 2 rfl) (HR4.out.le 7 rfl) (HR4.out.le 2 rfl) ft4.1 gt4.1).mono ?_
 rintro e4 w4 ⟨rfl, hb4⟩
 have HR5 := Lib.hid (HR4.out.below hb4)
 clear hb4 HR4  f4 g4
 by_cases hne : x4 = y4
 rotate_left
 ·rw [same_f hne]
  have HF := nf (fun X : TyCache => X.2.2.2.2) HANS hne
  clear hne
  go_wp2_with fail
  go_ret
  exact ⟨by rw [HF.out]; rfl, HR5.out.1⟩
 rw [same_t hne]
 subst hne
 have HT := Lib.hid (HANS.out.trans (same_t rfl))
 go_wp2_with fail
 go_ret
 exact ⟨by rw [HT.out]; rfl, HR5.out.1⟩
end Go.Proofs.YtgnmollbnopigaaGreat
