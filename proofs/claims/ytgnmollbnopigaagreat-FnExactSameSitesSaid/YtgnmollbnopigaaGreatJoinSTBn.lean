/- Comparisons, both sides. Printed by gen_same2.py. -/
import Derived.Test.YtgnmollbnopigaaGreatJoinSTBh
import Derived.Test.YtgnmollbnopigaaGreatJoinSTBi
import Derived.Test.YtgnmollbnopigaaGreatJoinSTBj
set_option maxHeartbeats 16000000
set_option maxRecDepth 100000
namespace Go.Proofs.YtgnmollbnopigaaGreat
open Go.RowKit
theorem iSameMachine_o : SmS shMachine 145 := by
 intro X Y vs us lo hi lo' hi' w h h' hhi hhi' hf hf'
 obtain ⟨ANS, hANS⟩ : ∃ b, b = sameB X Y := ⟨_, rfl⟩
 rw [← hANS]
 obtain ⟨x0, x1, x2, x3, x4, x5, x6, X7, x8, x9, X10, x11, x12, x13, x14, x15⟩ := X
 obtain ⟨y0, y1, y2, y3, y4, y5, y6, Y7, y8, y9, Y10, y11, y12, y13, y14, y15⟩ := Y
 obtain ⟨ft0, ft1, ft2, ft3, ft4, ft5, ft6, ft7, ft8, ft9, ft10, ft11, ft12, ft13, ft14, ft15⟩ := hf
 obtain ⟨gt0, gt1, gt2, gt3, gt4, gt5, gt6, gt7, gt8, gt9, gt10, gt11, gt12, gt13, gt14, gt15⟩ := hf'
 have HANS := Lib.hid hANS; clear hANS
 obtain ⟨u0, ru0, eu0, k0, u1, ru1, eu1, k1, u2, ru2, eu2, k2, u3, ru3, eu3, k3, u4, ru4, eu4, k4, u5, ru5, eu5, k5, u6, ru6, eu6, k6, u7, ru7, eu7, k7, u8, ru8, eu8, k8, u9, ru9, eu9, k9, u10, ru10, eu10, k10, u11, ru11, eu11, k11, u12, ru12, eu12, k12, u13, ru13, eu13, k13, u14, ru14, eu14, k14, k15⟩ := h
 generalize ru14 = u15 at *
 obtain rfl := (show u0 = [.int .i64 x0] from k0)
 obtain rfl := (show u1 = [.int .i64 x1] from k1)
 have qk2 := k2; obtain ⟨A2, c2, rfl, _⟩ := qk2
 have qk3 := k3; obtain ⟨A3, c3, rfl, _⟩ := qk3
 have qk4 := k4; obtain ⟨A4, c4, rfl, _⟩ := qk4
 have qk5 := k5; obtain ⟨A5, c5, rfl, _⟩ := qk5
 have qk6 := k6; obtain ⟨A6, c6, rfl, _⟩ := qk6
 obtain rfl := (show u8 = [.bool x8] from k8)
 obtain rfl := (show u9 = [.bool x9] from k9)
 obtain rfl := (show u11 = [.int .i64 x11] from k11)
 obtain rfl := (show u12 = [.int .i64 x12] from k12)
 obtain rfl := (show u13 = [.int .i64 x13] from k13)
 obtain rfl := (show u14 = [.int .i64 x14] from k14)
 obtain rfl := (show u15 = [.string x15] from k15)
 have HG := Lib.hid (show ∀ (W : World) (b : Nat) (t : TypeId), Blk W b t vs.toArray → W.cell? ⟨b, 0, none⟩ = some (.int .i64 x0) ∧ W.cell? ⟨b, 1, none⟩ = some (.int .i64 x1) ∧ W.cell? ⟨b, 2, none⟩ = some (.slice A2 x2.length c2) ∧ W.cell? ⟨b, 3, none⟩ = some (.slice A3 x3.length c3) ∧ W.cell? ⟨b, 4, none⟩ = some (.slice A4 x4.length c4) ∧ W.cell? ⟨b, 5, none⟩ = some (.slice A5 x5.length c5) ∧ W.cell? ⟨b, 6, none⟩ = some (.slice A6 x6.length c6) ∧ W.rangeAt b 7 u7 ∧ W.cell? ⟨b, 11, none⟩ = some (.bool x8) ∧ W.cell? ⟨b, 12, none⟩ = some (.bool x9) ∧ W.rangeAt b 13 u10 ∧ W.cell? ⟨b, 16, none⟩ = some (.int .i64 x11) ∧ W.cell? ⟨b, 17, none⟩ = some (.int .i64 x12) ∧ W.cell? ⟨b, 18, none⟩ = some (.int .i64 x13) ∧ W.cell? ⟨b, 19, none⟩ = some (.int .i64 x14) ∧ W.cell? ⟨b, 20, none⟩ = some (.string x15) from fun W b t hB => by
  have q := blk_all hB
  obtain ⟨p0, q⟩ := rsp eu0 rfl q
  obtain ⟨p1, q⟩ := rsp eu1 rfl q
  obtain ⟨p2, q⟩ := rsp eu2 rfl q
  obtain ⟨p3, q⟩ := rsp eu3 rfl q
  obtain ⟨p4, q⟩ := rsp eu4 rfl q
  obtain ⟨p5, q⟩ := rsp eu5 rfl q
  obtain ⟨p6, q⟩ := rsp eu6 rfl q
  obtain ⟨p7, q⟩ := rsp eu7 (shLocals.R_len k7) q
  obtain ⟨p8, q⟩ := rsp eu8 rfl q
  obtain ⟨p9, q⟩ := rsp eu9 rfl q
  obtain ⟨p10, q⟩ := rsp eu10 (shRef.R_len k10) q
  obtain ⟨p11, q⟩ := rsp eu11 rfl q
  obtain ⟨p12, q⟩ := rsp eu12 rfl q
  obtain ⟨p13, q⟩ := rsp eu13 rfl q
  obtain ⟨p14, q⟩ := rsp eu14 rfl q
  exact ⟨rng_one p0, rng_one p1, rng_one p2, rng_one p3, rng_one p4, rng_one p5, rng_one p6, p7, rng_one p8, rng_one p9, p10, rng_one p11, rng_one p12, rng_one p13, rng_one p14, rng_one q⟩)
 clear eu0 eu1 eu2 eu3 eu4 eu5 eu6 eu7 eu8 eu9 eu10 eu11 eu12 eu13 eu14
 obtain ⟨v0, rv0, ev0, l0, v1, rv1, ev1, l1, v2, rv2, ev2, l2, v3, rv3, ev3, l3, v4, rv4, ev4, l4, v5, rv5, ev5, l5, v6, rv6, ev6, l6, v7, rv7, ev7, l7, v8, rv8, ev8, l8, v9, rv9, ev9, l9, v10, rv10, ev10, l10, v11, rv11, ev11, l11, v12, rv12, ev12, l12, v13, rv13, ev13, l13, v14, rv14, ev14, l14, l15⟩ := h'
 generalize rv14 = v15 at *
 obtain rfl := (show v0 = [.int .i64 y0] from l0)
 obtain rfl := (show v1 = [.int .i64 y1] from l1)
 have ql2 := l2; obtain ⟨B2, d2, rfl, _⟩ := ql2
 have ql3 := l3; obtain ⟨B3, d3, rfl, _⟩ := ql3
 have ql4 := l4; obtain ⟨B4, d4, rfl, _⟩ := ql4
 have ql5 := l5; obtain ⟨B5, d5, rfl, _⟩ := ql5
 have ql6 := l6; obtain ⟨B6, d6, rfl, _⟩ := ql6
 obtain rfl := (show v8 = [.bool y8] from l8)
 obtain rfl := (show v9 = [.bool y9] from l9)
 obtain rfl := (show v11 = [.int .i64 y11] from l11)
 obtain rfl := (show v12 = [.int .i64 y12] from l12)
 obtain rfl := (show v13 = [.int .i64 y13] from l13)
 obtain rfl := (show v14 = [.int .i64 y14] from l14)
 obtain rfl := (show v15 = [.string y15] from l15)
 have HH := Lib.hid (show ∀ (W : World) (b : Nat) (t : TypeId), Blk W b t us.toArray → W.cell? ⟨b, 0, none⟩ = some (.int .i64 y0) ∧ W.cell? ⟨b, 1, none⟩ = some (.int .i64 y1) ∧ W.cell? ⟨b, 2, none⟩ = some (.slice B2 y2.length d2) ∧ W.cell? ⟨b, 3, none⟩ = some (.slice B3 y3.length d3) ∧ W.cell? ⟨b, 4, none⟩ = some (.slice B4 y4.length d4) ∧ W.cell? ⟨b, 5, none⟩ = some (.slice B5 y5.length d5) ∧ W.cell? ⟨b, 6, none⟩ = some (.slice B6 y6.length d6) ∧ W.rangeAt b 7 v7 ∧ W.cell? ⟨b, 11, none⟩ = some (.bool y8) ∧ W.cell? ⟨b, 12, none⟩ = some (.bool y9) ∧ W.rangeAt b 13 v10 ∧ W.cell? ⟨b, 16, none⟩ = some (.int .i64 y11) ∧ W.cell? ⟨b, 17, none⟩ = some (.int .i64 y12) ∧ W.cell? ⟨b, 18, none⟩ = some (.int .i64 y13) ∧ W.cell? ⟨b, 19, none⟩ = some (.int .i64 y14) ∧ W.cell? ⟨b, 20, none⟩ = some (.string y15) from fun W b t hB => by
  have q := blk_all hB
  obtain ⟨p0, q⟩ := rsp ev0 rfl q
  obtain ⟨p1, q⟩ := rsp ev1 rfl q
  obtain ⟨p2, q⟩ := rsp ev2 rfl q
  obtain ⟨p3, q⟩ := rsp ev3 rfl q
  obtain ⟨p4, q⟩ := rsp ev4 rfl q
  obtain ⟨p5, q⟩ := rsp ev5 rfl q
  obtain ⟨p6, q⟩ := rsp ev6 rfl q
  obtain ⟨p7, q⟩ := rsp ev7 (shLocals.R_len l7) q
  obtain ⟨p8, q⟩ := rsp ev8 rfl q
  obtain ⟨p9, q⟩ := rsp ev9 rfl q
  obtain ⟨p10, q⟩ := rsp ev10 (shRef.R_len l10) q
  obtain ⟨p11, q⟩ := rsp ev11 rfl q
  obtain ⟨p12, q⟩ := rsp ev12 rfl q
  obtain ⟨p13, q⟩ := rsp ev13 rfl q
  obtain ⟨p14, q⟩ := rsp ev14 rfl q
  exact ⟨rng_one p0, rng_one p1, rng_one p2, rng_one p3, rng_one p4, rng_one p5, rng_one p6, p7, rng_one p8, rng_one p9, p10, rng_one p11, rng_one p12, rng_one p13, rng_one p14, rng_one q⟩)
 clear ev0 ev1 ev2 ev3 ev4 ev5 ev6 ev7 ev8 ev9 ev10 ev11 ev12 ev13 ev14
 have R0 := (((((((((((((((((Stand.nil w).ad (Sh.row 9 shS).R [.slice A2 x2.length c2] x2 hhi k2 (Sh.row 9 shS).R_keep).ad (Sh.row 152 shRef).R [.slice A3 x3.length c3] x3 hhi k3 (Sh.row 152 shRef).R_keep).ad (Sh.row 322 shGiven).R [.slice A4 x4.length c4] x4 hhi k4 (Sh.row 322 shGiven).R_keep).ad (Sh.row 325 shLoop).R [.slice A5 x5.length c5] x5 hhi k5 (Sh.row 325 shLoop).R_keep).ad (Sh.row 328 shFrame).R [.slice A6 x6.length c6] x6 hhi k6 (Sh.row 328 shFrame).R_keep).ad shLocals.R u7 X7 hhi k7 shLocals.R_keep).ad shRef.R u10 X10 hhi k10 shRef.R_keep).ad (Sh.row 9 shS).R [.slice B2 y2.length d2] y2 hhi' l2 (Sh.row 9 shS).R_keep).ad (Sh.row 152 shRef).R [.slice B3 y3.length d3] y3 hhi' l3 (Sh.row 152 shRef).R_keep).ad (Sh.row 322 shGiven).R [.slice B4 y4.length d4] y4 hhi' l4 (Sh.row 322 shGiven).R_keep).ad (Sh.row 325 shLoop).R [.slice B5 y5.length d5] y5 hhi' l5 (Sh.row 325 shLoop).R_keep).ad (Sh.row 328 shFrame).R [.slice B6 y6.length d6] y6 hhi' l6 (Sh.row 328 shFrame).R_keep).ad shLocals.R v7 Y7 hhi' l7 shLocals.R_keep).ad shRef.R v10 Y10 hhi' l10 shRef.R_keep).box 154 vs.toArray).box 154 us.toArray)
 rw [heap_alloc_size1] at R0
 have HR0 := Lib.hid R0
 have HZ7 := slH sizeILocals k7
 have HY7 := slH sizeILocals l7
 have HZ10 := slH sizeIRef k10
 have HY10 := slH sizeIRef l10
 clear R0 k2 l2 k3 l3 k4 l4 k5 l5 k6 l6 k7 l7 k10 l10
 go_enter Tryz.func145, Tryz.ntmps145
 (try dsimp only [List.append])
 have f0 := (HG.out _ _ _ (HR0.out.get 1 rfl)).1
 have g0 := (HH.out _ _ _ (HR0.out.get 0 rfl)).1
 have f1 := (HG.out _ _ _ (HR0.out.get 1 rfl)).2.1
 have g1 := (HH.out _ _ _ (HR0.out.get 0 rfl)).2.1
 have f2 := (HG.out _ _ _ (HR0.out.get 1 rfl)).2.2.1
 have g2 := (HH.out _ _ _ (HR0.out.get 0 rfl)).2.2.1
 by_cases hne : x0 = y0
 rotate_left
 ·have HF := nf (fun X : TyMachine => X.1) HANS hne
  have hq : (x0 == y0) = false := beq_eq_false_iff_ne.2 hne
  clear hne
  go_wp2_with fail
  go_ret
  exact ⟨by rw [HF.out]; rfl, HR0.out.1⟩
 subst hne
 by_cases hne : x1 = y1
 rotate_left
 ·have HF := nf (fun X : TyMachine => X.2.1) HANS hne
  have hq : (x1 == y1) = false := beq_eq_false_iff_ne.2 hne
  clear hne
  go_wp2_with fail
  go_ret
  exact ⟨by rw [HF.out]; rfl, HR0.out.1⟩
 subst hne
 go_wp2_with fail
 refine (eqlStr A2 B2 c2 d2 x2 y2 lo hi lo' hi' _ (HR0.out.get 15 rfl) (HR0.out.get 8 rfl) (HR0.out.le 15 rfl) (HR0.out.le 8 rfl) ft2.1 gt2.1).mono ?_
 rintro e2 w2 ⟨rfl, hb2⟩
 have HR1 := Lib.hid (HR0.out.below hb2)
 clear hb2 HR0  f0 g0 f1 g1 f2 g2
 by_cases hne : x2 = y2
 rotate_left
 ·rw [same_f hne]
  have HF := nf (fun X : TyMachine => X.2.2.1) HANS hne
  clear hne
  go_wp2_with fail
  go_ret
  exact ⟨by rw [HF.out]; rfl, HR1.out.1⟩
 rw [same_t hne]
 subst hne
 have f3 := (HG.out _ _ _ (HR1.out.get 1 rfl)).2.2.2.1
 have g3 := (HH.out _ _ _ (HR1.out.get 0 rfl)).2.2.2.1
 go_wp2_with fail
 refine (eqfRef A3 B3 c3 d3 x3 y3 lo hi lo' hi' _ (HR1.out.get 14 rfl) (HR1.out.get 7 rfl) (HR1.out.le 14 rfl) (HR1.out.le 7 rfl) ft3 gt3).mono ?_
 rintro e3 w3 ⟨rfl, hb3⟩
 have HR2 := Lib.hid (HR1.out.below hb3)
 clear hb3 HR1  f3 g3
 by_cases hne : x3 = y3
 rotate_left
 ·rw [same_f hne]
  have HF := nf (fun X : TyMachine => X.2.2.2.1) HANS hne
  clear hne
  go_wp2_with fail
  go_ret
  exact ⟨by rw [HF.out]; rfl, HR2.out.1⟩
 rw [same_t hne]
 subst hne
 have f4 := (HG.out _ _ _ (HR2.out.get 1 rfl)).2.2.2.2.1
 have g4 := (HH.out _ _ _ (HR2.out.get 0 rfl)).2.2.2.2.1
 go_wp2_with fail
 refine (eqlGiven A4 B4 c4 d4 x4 y4 lo hi lo' hi' _ (HR2.out.get 13 rfl) (HR2.out.get 6 rfl) (HR2.out.le 13 rfl) (HR2.out.le 6 rfl) ft4.1 gt4.1).mono ?_
 rintro e4 w4 ⟨rfl, hb4⟩
 have HR3 := Lib.hid (HR2.out.below hb4)
 clear hb4 HR2  f4 g4
 by_cases hne : x4 = y4
 rotate_left
 ·rw [same_f hne]
  have HF := nf (fun X : TyMachine => X.2.2.2.2.1) HANS hne
  clear hne
  go_wp2_with fail
  go_ret
  exact ⟨by rw [HF.out]; rfl, HR3.out.1⟩
 rw [same_t hne]
 subst hne
 have f5 := (HG.out _ _ _ (HR3.out.get 1 rfl)).2.2.2.2.2.1
 have g5 := (HH.out _ _ _ (HR3.out.get 0 rfl)).2.2.2.2.2.1
 go_wp2_with fail
 refine (eqlLoop A5 B5 c5 d5 x5 y5 lo hi lo' hi' _ (HR3.out.get 12 rfl) (HR3.out.get 5 rfl) (HR3.out.le 12 rfl) (HR3.out.le 5 rfl) ft5.1 gt5.1).mono ?_
 rintro e5 w5 ⟨rfl, hb5⟩
 have HR4 := Lib.hid (HR3.out.below hb5)
 clear hb5 HR3  f5 g5
 by_cases hne : x5 = y5
 rotate_left
 ·rw [same_f hne]
  have HF := nf (fun X : TyMachine => X.2.2.2.2.2.1) HANS hne
  clear hne
  go_wp2_with fail
  go_ret
  exact ⟨by rw [HF.out]; rfl, HR4.out.1⟩
 rw [same_t hne]
 subst hne
 have f6 := (HG.out _ _ _ (HR4.out.get 1 rfl)).2.2.2.2.2.2.1
 have g6 := (HH.out _ _ _ (HR4.out.get 0 rfl)).2.2.2.2.2.2.1
 go_wp2_with fail
 refine (eqlFrame A6 B6 c6 d6 x6 y6 lo hi lo' hi' _ (HR4.out.get 11 rfl) (HR4.out.get 4 rfl) (HR4.out.le 11 rfl) (HR4.out.le 4 rfl) ft6.1 gt6.1).mono ?_
 rintro e6 w6 ⟨rfl, hb6⟩
 have HR5 := Lib.hid (HR4.out.below hb6)
 clear hb6 HR4  f6 g6
 by_cases hne : x6 = y6
 rotate_left
 ·rw [same_f hne]
  have HF := nf (fun X : TyMachine => X.2.2.2.2.2.2.1) HANS hne
  clear hne
  go_wp2_with fail
  go_ret
  exact ⟨by rw [HF.out]; rfl, HR5.out.1⟩
 rw [same_t hne]
 subst hne
 go_wp2_with (first | fail | (refine wlg w.heap.size 7 u7 (HG.out _ _ _ (HR5.out.get 1 rfl)).2.2.2.2.2.2.2.1 Tryz.underlying150 HZ7.out ?_) | (refine wlg (w.heap.size + 1) 7 v7 (HH.out _ _ _ (HR5.out.get 0 rfl)).2.2.2.2.2.2.2.1 Tryz.underlying150 HY7.out ?_))
 refine (sameLocals_o X7 Y7 u7 v7 lo hi lo' hi' _ (HR5.out.get 10 rfl) (HR5.out.get 3 rfl) (HR5.out.le 10 rfl) (HR5.out.le 3 rfl) ft7 gt7).mono ?_
 rintro e7 w7 ⟨rfl, hb7⟩
 have HR6 := Lib.hid (HR5.out.below hb7)
 clear hb7 HR5  
 by_cases hne : X7 = Y7
 rotate_left
 ·rw [same_f hne]
  have HF := nf (fun X : TyMachine => X.2.2.2.2.2.2.2.1) HANS hne
  clear hne
  go_wp2_with fail
  go_ret
  exact ⟨by rw [HF.out]; rfl, HR6.out.1⟩
 rw [same_t hne]
 subst hne
 have f8 := (HG.out _ _ _ (HR6.out.get 1 rfl)).2.2.2.2.2.2.2.2.1
 have g8 := (HH.out _ _ _ (HR6.out.get 0 rfl)).2.2.2.2.2.2.2.2.1
 have f9 := (HG.out _ _ _ (HR6.out.get 1 rfl)).2.2.2.2.2.2.2.2.2.1
 have g9 := (HH.out _ _ _ (HR6.out.get 0 rfl)).2.2.2.2.2.2.2.2.2.1
 by_cases hne : x8 = y8
 rotate_left
 ·have HF := nf (fun X : TyMachine => X.2.2.2.2.2.2.2.2.1) HANS hne
  have hq : (x8 == y8) = false := beq_eq_false_iff_ne.2 hne
  have hq2 := hq; (try simp only [beq_eq_false_iff_ne, ne_eq] at hq2)
  clear hne
  go_wp2_with fail
  go_ret
  exact ⟨by rw [HF.out]; rfl, HR6.out.1⟩
 subst hne
 by_cases hne : x9 = y9
 rotate_left
 ·have HF := nf (fun X : TyMachine => X.2.2.2.2.2.2.2.2.2.1) HANS hne
  have hq : (x9 == y9) = false := beq_eq_false_iff_ne.2 hne
  have hq2 := hq; (try simp only [beq_eq_false_iff_ne, ne_eq] at hq2)
  clear hne
  go_wp2_with fail
  go_ret
  exact ⟨by rw [HF.out]; rfl, HR6.out.1⟩
 subst hne
 go_wp2_with (first | fail | (refine wlg w.heap.size 13 u10 (HG.out _ _ _ (HR6.out.get 1 rfl)).2.2.2.2.2.2.2.2.2.2.1 Tryz.underlying152 HZ10.out ?_) | (refine wlg (w.heap.size + 1) 13 v10 (HH.out _ _ _ (HR6.out.get 0 rfl)).2.2.2.2.2.2.2.2.2.2.1 Tryz.underlying152 HY10.out ?_))
 refine (sameRef_o X10 Y10 u10 v10 lo hi lo' hi' _ (HR6.out.get 9 rfl) (HR6.out.get 2 rfl) (HR6.out.le 9 rfl) (HR6.out.le 2 rfl) ft10 gt10).mono ?_
 rintro e10 w10 ⟨rfl, hb10⟩
 have HR7 := Lib.hid (HR6.out.below hb10)
 clear hb10 HR6  f8 g8 f9 g9
 by_cases hne : X10 = Y10
 rotate_left
 ·rw [same_f hne]
  have HF := nf (fun X : TyMachine => X.2.2.2.2.2.2.2.2.2.2.1) HANS hne
  clear hne
  go_wp2_with fail
  go_ret
  exact ⟨by rw [HF.out]; rfl, HR7.out.1⟩
 rw [same_t hne]
 subst hne
 have f11 := (HG.out _ _ _ (HR7.out.get 1 rfl)).2.2.2.2.2.2.2.2.2.2.2.1
 have g11 := (HH.out _ _ _ (HR7.out.get 0 rfl)).2.2.2.2.2.2.2.2.2.2.2.1
 have f12 := (HG.out _ _ _ (HR7.out.get 1 rfl)).2.2.2.2.2.2.2.2.2.2.2.2.1
 have g12 := (HH.out _ _ _ (HR7.out.get 0 rfl)).2.2.2.2.2.2.2.2.2.2.2.2.1
 have f13 := (HG.out _ _ _ (HR7.out.get 1 rfl)).2.2.2.2.2.2.2.2.2.2.2.2.2.1
 have g13 := (HH.out _ _ _ (HR7.out.get 0 rfl)).2.2.2.2.2.2.2.2.2.2.2.2.2.1
 have f14 := (HG.out _ _ _ (HR7.out.get 1 rfl)).2.2.2.2.2.2.2.2.2.2.2.2.2.2.1
 have g14 := (HH.out _ _ _ (HR7.out.get 0 rfl)).2.2.2.2.2.2.2.2.2.2.2.2.2.2.1
 have f15 := (HG.out _ _ _ (HR7.out.get 1 rfl)).2.2.2.2.2.2.2.2.2.2.2.2.2.2.2
 have g15 := (HH.out _ _ _ (HR7.out.get 0 rfl)).2.2.2.2.2.2.2.2.2.2.2.2.2.2.2
 by_cases hne : x11 = y11
 rotate_left
 ·have HF := nf (fun X : TyMachine => X.2.2.2.2.2.2.2.2.2.2.2.1) HANS hne
  have hq : (x11 == y11) = false := beq_eq_false_iff_ne.2 hne
  clear hne
  go_wp2_with fail
  go_ret
  exact ⟨by rw [HF.out]; rfl, HR7.out.1⟩
 subst hne
 by_cases hne : x12 = y12
 rotate_left
 ·have HF := nf (fun X : TyMachine => X.2.2.2.2.2.2.2.2.2.2.2.2.1) HANS hne
  have hq : (x12 == y12) = false := beq_eq_false_iff_ne.2 hne
  clear hne
  go_wp2_with fail
  go_ret
  exact ⟨by rw [HF.out]; rfl, HR7.out.1⟩
 subst hne
 by_cases hne : x13 = y13
 rotate_left
 ·have HF := nf (fun X : TyMachine => X.2.2.2.2.2.2.2.2.2.2.2.2.2.1) HANS hne
  have hq : (x13 == y13) = false := beq_eq_false_iff_ne.2 hne
  clear hne
  go_wp2_with fail
  go_ret
  exact ⟨by rw [HF.out]; rfl, HR7.out.1⟩
 subst hne
 by_cases hne : x14 = y14
 rotate_left
 ·have HF := nf (fun X : TyMachine => X.2.2.2.2.2.2.2.2.2.2.2.2.2.2.1) HANS hne
  have hq : (x14 == y14) = false := beq_eq_false_iff_ne.2 hne
  clear hne
  go_wp2_with fail
  go_ret
  exact ⟨by rw [HF.out]; rfl, HR7.out.1⟩
 subst hne
 by_cases hne : x15 = y15
 rotate_left
 ·have HF := nf (fun X : TyMachine => X.2.2.2.2.2.2.2.2.2.2.2.2.2.2.2) HANS hne
  have hq : (x15.toList == y15.toList) = false := str_ne hne
  clear hne
  go_wp2_with fail
  go_ret
  exact ⟨by rw [HF.out]; rfl, HR7.out.1⟩
 subst hne
 have HT := Lib.hid (HANS.out.trans (same_t rfl))
 go_wp2_with fail
 go_ret
 exact ⟨by rw [HT.out]; rfl, HR7.out.1⟩
end Go.Proofs.YtgnmollbnopigaaGreat
/- Comparisons, both sides. Printed by gen_same2.py. -/
namespace Go.Proofs.YtgnmollbnopigaaGreat
open Go.RowKit
theorem sameJob_o : SmS shJob 76 := by
 intro X Y vs us lo hi lo' hi' w h h' hhi hhi' hf hf'
 obtain ⟨ANS, hANS⟩ : ∃ b, b = sameB X Y := ⟨_, rfl⟩
 rw [← hANS]
 obtain ⟨x0, X1, X2, X3, x4, x5, x6, x7, x8, x9⟩ := X
 obtain ⟨y0, Y1, Y2, Y3, y4, y5, y6, y7, y8, y9⟩ := Y
 obtain ⟨ft0, ft1, ft2, ft3, ft4, ft5, ft6, ft7, ft8, ft9⟩ := hf
 obtain ⟨gt0, gt1, gt2, gt3, gt4, gt5, gt6, gt7, gt8, gt9⟩ := hf'
 have HANS := Lib.hid hANS; clear hANS
 obtain ⟨u0, ru0, eu0, k0, u1, ru1, eu1, k1, u2, ru2, eu2, k2, u3, ru3, eu3, k3, u4, ru4, eu4, k4, u5, ru5, eu5, k5, u6, ru6, eu6, k6, u7, ru7, eu7, k7, u8, ru8, eu8, k8, k9⟩ := h
 generalize ru8 = u9 at *
 obtain rfl := (show u0 = [.int .i64 x0] from k0)
 obtain rfl := (show u4 = [.string x4] from k4)
 have qk5 := k5; obtain ⟨A5, c5, rfl, _⟩ := qk5
 have qk6 := k6; obtain ⟨A6, c6, rfl, _⟩ := qk6
 obtain rfl := (show u7 = [.int .i64 x7] from k7)
 have qk8 := k8; obtain ⟨A8, c8, rfl, _⟩ := qk8
 obtain rfl := (show u9 = [.string x9] from k9)
 have HG := Lib.hid (show ∀ (W : World) (b : Nat) (t : TypeId), Blk W b t vs.toArray → W.cell? ⟨b, 0, none⟩ = some (.int .i64 x0) ∧ W.rangeAt b 1 u1 ∧ W.rangeAt b 22 u2 ∧ W.rangeAt b 25 u3 ∧ W.cell? ⟨b, 46, none⟩ = some (.string x4) ∧ W.cell? ⟨b, 47, none⟩ = some (.slice A5 x5.length c5) ∧ W.cell? ⟨b, 48, none⟩ = some (.slice A6 x6.length c6) ∧ W.cell? ⟨b, 49, none⟩ = some (.int .i64 x7) ∧ W.cell? ⟨b, 50, none⟩ = some (.slice A8 x8.length c8) ∧ W.cell? ⟨b, 51, none⟩ = some (.string x9) from fun W b t hB => by
  have q := blk_all hB
  obtain ⟨p0, q⟩ := rsp eu0 rfl q
  obtain ⟨p1, q⟩ := rsp eu1 (shMachine.R_len k1) q
  obtain ⟨p2, q⟩ := rsp eu2 (shTrans.R_len k2) q
  obtain ⟨p3, q⟩ := rsp eu3 (shMachine.R_len k3) q
  obtain ⟨p4, q⟩ := rsp eu4 rfl q
  obtain ⟨p5, q⟩ := rsp eu5 rfl q
  obtain ⟨p6, q⟩ := rsp eu6 rfl q
  obtain ⟨p7, q⟩ := rsp eu7 rfl q
  obtain ⟨p8, q⟩ := rsp eu8 rfl q
  exact ⟨rng_one p0, p1, p2, p3, rng_one p4, rng_one p5, rng_one p6, rng_one p7, rng_one p8, rng_one q⟩)
 clear eu0 eu1 eu2 eu3 eu4 eu5 eu6 eu7 eu8
 obtain ⟨v0, rv0, ev0, l0, v1, rv1, ev1, l1, v2, rv2, ev2, l2, v3, rv3, ev3, l3, v4, rv4, ev4, l4, v5, rv5, ev5, l5, v6, rv6, ev6, l6, v7, rv7, ev7, l7, v8, rv8, ev8, l8, l9⟩ := h'
 generalize rv8 = v9 at *
 obtain rfl := (show v0 = [.int .i64 y0] from l0)
 obtain rfl := (show v4 = [.string y4] from l4)
 have ql5 := l5; obtain ⟨B5, d5, rfl, _⟩ := ql5
 have ql6 := l6; obtain ⟨B6, d6, rfl, _⟩ := ql6
 obtain rfl := (show v7 = [.int .i64 y7] from l7)
 have ql8 := l8; obtain ⟨B8, d8, rfl, _⟩ := ql8
 obtain rfl := (show v9 = [.string y9] from l9)
 have HH := Lib.hid (show ∀ (W : World) (b : Nat) (t : TypeId), Blk W b t us.toArray → W.cell? ⟨b, 0, none⟩ = some (.int .i64 y0) ∧ W.rangeAt b 1 v1 ∧ W.rangeAt b 22 v2 ∧ W.rangeAt b 25 v3 ∧ W.cell? ⟨b, 46, none⟩ = some (.string y4) ∧ W.cell? ⟨b, 47, none⟩ = some (.slice B5 y5.length d5) ∧ W.cell? ⟨b, 48, none⟩ = some (.slice B6 y6.length d6) ∧ W.cell? ⟨b, 49, none⟩ = some (.int .i64 y7) ∧ W.cell? ⟨b, 50, none⟩ = some (.slice B8 y8.length d8) ∧ W.cell? ⟨b, 51, none⟩ = some (.string y9) from fun W b t hB => by
  have q := blk_all hB
  obtain ⟨p0, q⟩ := rsp ev0 rfl q
  obtain ⟨p1, q⟩ := rsp ev1 (shMachine.R_len l1) q
  obtain ⟨p2, q⟩ := rsp ev2 (shTrans.R_len l2) q
  obtain ⟨p3, q⟩ := rsp ev3 (shMachine.R_len l3) q
  obtain ⟨p4, q⟩ := rsp ev4 rfl q
  obtain ⟨p5, q⟩ := rsp ev5 rfl q
  obtain ⟨p6, q⟩ := rsp ev6 rfl q
  obtain ⟨p7, q⟩ := rsp ev7 rfl q
  obtain ⟨p8, q⟩ := rsp ev8 rfl q
  exact ⟨rng_one p0, p1, p2, p3, rng_one p4, rng_one p5, rng_one p6, rng_one p7, rng_one p8, rng_one q⟩)
 clear ev0 ev1 ev2 ev3 ev4 ev5 ev6 ev7 ev8
 have R0 := (((((((((((((((Stand.nil w).ad shMachine.R u1 X1 hhi k1 shMachine.R_keep).ad shTrans.R u2 X2 hhi k2 shTrans.R_keep).ad shMachine.R u3 X3 hhi k3 shMachine.R_keep).ad (Sh.row 9 shS).R [.slice A5 x5.length c5] x5 hhi k5 (Sh.row 9 shS).R_keep).ad (Sh.row 231 shLock).R [.slice A6 x6.length c6] x6 hhi k6 (Sh.row 231 shLock).R_keep).ad (Sh.row 9 shS).R [.slice A8 x8.length c8] x8 hhi k8 (Sh.row 9 shS).R_keep).ad shMachine.R v1 Y1 hhi' l1 shMachine.R_keep).ad shTrans.R v2 Y2 hhi' l2 shTrans.R_keep).ad shMachine.R v3 Y3 hhi' l3 shMachine.R_keep).ad (Sh.row 9 shS).R [.slice B5 y5.length d5] y5 hhi' l5 (Sh.row 9 shS).R_keep).ad (Sh.row 231 shLock).R [.slice B6 y6.length d6] y6 hhi' l6 (Sh.row 231 shLock).R_keep).ad (Sh.row 9 shS).R [.slice B8 y8.length d8] y8 hhi' l8 (Sh.row 9 shS).R_keep).box 159 vs.toArray).box 159 us.toArray)
 rw [heap_alloc_size1] at R0
 have HR0 := Lib.hid R0
 have HZ1 := slH sizeIMachine k1
 have HY1 := slH sizeIMachine l1
 have HZ2 := slH sizeITrans k2
 have HY2 := slH sizeITrans l2
 have HZ3 := slH sizeIMachine k3
 have HY3 := slH sizeIMachine l3
 clear R0 k1 l1 k2 l2 k3 l3 k5 l5 k6 l6 k8 l8
 go_enter Tryz.func76, Tryz.ntmps76
 (try dsimp only [List.append])
 have f0 := (HG.out _ _ _ (HR0.out.get 1 rfl)).1
 have g0 := (HH.out _ _ _ (HR0.out.get 0 rfl)).1
 by_cases hne : x0 = y0
 rotate_left
 ·have HF := nf (fun X : TyJob => X.1) HANS hne
  have hq : (x0 == y0) = false := beq_eq_false_iff_ne.2 hne
  clear hne
  go_wp2_with fail
  go_ret
  exact ⟨by rw [HF.out]; rfl, HR0.out.1⟩
 subst hne
 go_wp2_with (first | fail | (refine wlg w.heap.size 1 u1 (HG.out _ _ _ (HR0.out.get 1 rfl)).2.1 Tryz.underlying154 HZ1.out ?_) | (refine wlg (w.heap.size + 1) 1 v1 (HH.out _ _ _ (HR0.out.get 0 rfl)).2.1 Tryz.underlying154 HY1.out ?_))
 refine (iSameMachine_o X1 Y1 u1 v1 lo hi lo' hi' _ (HR0.out.get 13 rfl) (HR0.out.get 7 rfl) (HR0.out.le 13 rfl) (HR0.out.le 7 rfl) ft1 gt1).mono ?_
 rintro e1 w1 ⟨rfl, hb1⟩
 have HR1 := Lib.hid (HR0.out.below hb1)
 clear hb1 HR0  f0 g0
 by_cases hne : X1 = Y1
 rotate_left
 ·rw [same_f hne]
  have HF := nf (fun X : TyJob => X.2.1) HANS hne
  clear hne
  go_wp2_with fail
  go_ret
  exact ⟨by rw [HF.out]; rfl, HR1.out.1⟩
 rw [same_t hne]
 subst hne
 go_wp2_with (first | fail | (refine wlg w.heap.size 22 u2 (HG.out _ _ _ (HR1.out.get 1 rfl)).2.2.1 Tryz.underlying157 HZ2.out ?_) | (refine wlg (w.heap.size + 1) 22 v2 (HH.out _ _ _ (HR1.out.get 0 rfl)).2.2.1 Tryz.underlying157 HY2.out ?_))
 refine (iSameTrans_o X2 Y2 u2 v2 lo hi lo' hi' _ (HR1.out.get 12 rfl) (HR1.out.get 6 rfl) (HR1.out.le 12 rfl) (HR1.out.le 6 rfl) ft2 gt2).mono ?_
 rintro e2 w2 ⟨rfl, hb2⟩
 have HR2 := Lib.hid (HR1.out.below hb2)
 clear hb2 HR1  
 by_cases hne : X2 = Y2
 rotate_left
 ·rw [same_f hne]
  have HF := nf (fun X : TyJob => X.2.2.1) HANS hne
  clear hne
  go_wp2_with fail
  go_ret
  exact ⟨by rw [HF.out]; rfl, HR2.out.1⟩
 rw [same_t hne]
 subst hne
 go_wp2_with (first | fail | (refine wlg w.heap.size 25 u3 (HG.out _ _ _ (HR2.out.get 1 rfl)).2.2.2.1 Tryz.underlying154 HZ3.out ?_) | (refine wlg (w.heap.size + 1) 25 v3 (HH.out _ _ _ (HR2.out.get 0 rfl)).2.2.2.1 Tryz.underlying154 HY3.out ?_))
 refine (iSameMachine_o X3 Y3 u3 v3 lo hi lo' hi' _ (HR2.out.get 11 rfl) (HR2.out.get 5 rfl) (HR2.out.le 11 rfl) (HR2.out.le 5 rfl) ft3 gt3).mono ?_
 rintro e3 w3 ⟨rfl, hb3⟩
 have HR3 := Lib.hid (HR2.out.below hb3)
 clear hb3 HR2  
 by_cases hne : X3 = Y3
 rotate_left
 ·rw [same_f hne]
  have HF := nf (fun X : TyJob => X.2.2.2.1) HANS hne
  clear hne
  go_wp2_with fail
  go_ret
  exact ⟨by rw [HF.out]; rfl, HR3.out.1⟩
 rw [same_t hne]
 subst hne
 have f4 := (HG.out _ _ _ (HR3.out.get 1 rfl)).2.2.2.2.1
 have g4 := (HH.out _ _ _ (HR3.out.get 0 rfl)).2.2.2.2.1
 have f5 := (HG.out _ _ _ (HR3.out.get 1 rfl)).2.2.2.2.2.1
 have g5 := (HH.out _ _ _ (HR3.out.get 0 rfl)).2.2.2.2.2.1
 by_cases hne : x4 = y4
 rotate_left
 ·have HF := nf (fun X : TyJob => X.2.2.2.2.1) HANS hne
  have hq : (x4.toList == y4.toList) = false := str_ne hne
  clear hne
  go_wp2_with fail
  go_ret
  exact ⟨by rw [HF.out]; rfl, HR3.out.1⟩
 subst hne
 go_wp2_with fail
 refine (eqlStr A5 B5 c5 d5 x5 y5 lo hi lo' hi' _ (HR3.out.get 10 rfl) (HR3.out.get 4 rfl) (HR3.out.le 10 rfl) (HR3.out.le 4 rfl) ft5.1 gt5.1).mono ?_
 rintro e5 w5 ⟨rfl, hb5⟩
 have HR4 := Lib.hid (HR3.out.below hb5)
 clear hb5 HR3  f4 g4 f5 g5
 by_cases hne : x5 = y5
 rotate_left
 ·rw [same_f hne]
  have HF := nf (fun X : TyJob => X.2.2.2.2.2.1) HANS hne
  clear hne
  go_wp2_with fail
  go_ret
  exact ⟨by rw [HF.out]; rfl, HR4.out.1⟩
 rw [same_t hne]
 subst hne
 have f6 := (HG.out _ _ _ (HR4.out.get 1 rfl)).2.2.2.2.2.2.1
 have g6 := (HH.out _ _ _ (HR4.out.get 0 rfl)).2.2.2.2.2.2.1
 go_wp2_with fail
 refine (eqfLock A6 B6 c6 d6 x6 y6 lo hi lo' hi' _ (HR4.out.get 9 rfl) (HR4.out.get 3 rfl) (HR4.out.le 9 rfl) (HR4.out.le 3 rfl) ft6 gt6).mono ?_
 rintro e6 w6 ⟨rfl, hb6⟩
 have HR5 := Lib.hid (HR4.out.below hb6)
 clear hb6 HR4  f6 g6
 by_cases hne : x6 = y6
 rotate_left
 ·rw [same_f hne]
  have HF := nf (fun X : TyJob => X.2.2.2.2.2.2.1) HANS hne
  clear hne
  go_wp2_with fail
  go_ret
  exact ⟨by rw [HF.out]; rfl, HR5.out.1⟩
 rw [same_t hne]
 subst hne
 have f7 := (HG.out _ _ _ (HR5.out.get 1 rfl)).2.2.2.2.2.2.2.1
 have g7 := (HH.out _ _ _ (HR5.out.get 0 rfl)).2.2.2.2.2.2.2.1
 have f8 := (HG.out _ _ _ (HR5.out.get 1 rfl)).2.2.2.2.2.2.2.2.1
 have g8 := (HH.out _ _ _ (HR5.out.get 0 rfl)).2.2.2.2.2.2.2.2.1
 by_cases hne : x7 = y7
 rotate_left
 ·have HF := nf (fun X : TyJob => X.2.2.2.2.2.2.2.1) HANS hne
  have hq : (x7 == y7) = false := beq_eq_false_iff_ne.2 hne
  clear hne
  go_wp2_with fail
  go_ret
  exact ⟨by rw [HF.out]; rfl, HR5.out.1⟩
 subst hne
 go_wp2_with fail
 refine (eqlStr A8 B8 c8 d8 x8 y8 lo hi lo' hi' _ (HR5.out.get 8 rfl) (HR5.out.get 2 rfl) (HR5.out.le 8 rfl) (HR5.out.le 2 rfl) ft8.1 gt8.1).mono ?_
 rintro e8 w8 ⟨rfl, hb8⟩
 have HR6 := Lib.hid (HR5.out.below hb8)
 clear hb8 HR5  f7 g7 f8 g8
 by_cases hne : x8 = y8
 rotate_left
 ·rw [same_f hne]
  have HF := nf (fun X : TyJob => X.2.2.2.2.2.2.2.2.1) HANS hne
  clear hne
  go_wp2_with fail
  go_ret
  exact ⟨by rw [HF.out]; rfl, HR6.out.1⟩
 rw [same_t hne]
 subst hne
 have f9 := (HG.out _ _ _ (HR6.out.get 1 rfl)).2.2.2.2.2.2.2.2.2
 have g9 := (HH.out _ _ _ (HR6.out.get 0 rfl)).2.2.2.2.2.2.2.2.2
 by_cases hne : x9 = y9
 rotate_left
 ·have HF := nf (fun X : TyJob => X.2.2.2.2.2.2.2.2.2) HANS hne
  have hq : (x9.toList == y9.toList) = false := str_ne hne
  clear hne
  go_wp2_with fail
  go_ret
  exact ⟨by rw [HF.out]; rfl, HR6.out.1⟩
 subst hne
 have HT := Lib.hid (HANS.out.trans (same_t rfl))
 go_wp2_with fail
 go_ret
 exact ⟨by rw [HT.out]; rfl, HR6.out.1⟩
end Go.Proofs.YtgnmollbnopigaaGreat
