/- Comparisons, both sides. Printed by gen_same2.py. -/
import Derived.Test.YtgnmollbnopigaaGreatJoinSSBv
import Derived.Test.YtgnmollbnopigaaGreatJoinSSBh
namespace Go.Proofs.YtgnmollbnopigaaGreat
open Go.RowKit
set_option maxHeartbeats 4000000 in
set_option maxRecDepth 100000 in
theorem sSameMachine0_o : SmS shMachine 184 := by
 intro X Y vs us lo hi lo' hi' w h h' hhi hhi' hf hf'
 obtain ⟨ANS, hANS⟩ : ∃ b, b = sameB X Y := ⟨_, rfl⟩
 rw [← hANS]
 obtain ⟨x0, x1, x2, x3, x4, x5, x6, X7, x8, x9, X10, x11, x12, x13, x14, x15⟩ := X
 obtain ⟨y0, y1, y2, y3, y4, y5, y6, Y7, y8, y9, Y10, y11, y12, y13, y14, y15⟩ := Y
 obtain ⟨ft0, ft1, ft2, ft3, ft4, ft5, ft6, ft7, ft8, ft9, ft10, ft11, ft12, ft13, ft14, ft15⟩ := hf
 obtain ⟨gt0, gt1, gt2, gt3, gt4, gt5, gt6, gt7, gt8, gt9, gt10, gt11, gt12, gt13, gt14, gt15⟩ := hf'
 have HANS := Lib.hid hANS; clear hANS
 obtain ⟨u0, ru0, eu0, k0, u1, ru1, eu1, k1, u2, ru2, eu2, k2, u3, ru3, eu3, k3, u4, ru4, eu4, k4, u5, ru5, eu5, k5, u6, ru6, eu6, k6, u7, ru7, eu7, k7, u8, ru8, eu8, k8, u9, ru9, eu9, k9, u10, ru10, eu10, k10, u11, ru11, eu11, k11, u12, ru12, eu12, k12, u13, ru13, eu13, k13, u14, ru14, eu14, k14, k15⟩ := h
 generalize ru14 = u15 at *
 obtain rfl := (show u0 = [.int .i64 x0] from k0)
 obtain rfl := (show u1 = [.int .i64 x1] from k1)
 have qk2 := k2; obtain ⟨A2, c2, rfl, _⟩ := qk2
 have qk3 := k3; obtain ⟨A3, c3, rfl, _⟩ := qk3
 have qk4 := k4; obtain ⟨A4, c4, rfl, _⟩ := qk4
 have qk5 := k5; obtain ⟨A5, c5, rfl, _⟩ := qk5
 have qk6 := k6; obtain ⟨A6, c6, rfl, _⟩ := qk6
 obtain rfl := (show u8 = [.bool x8] from k8)
 obtain rfl := (show u9 = [.bool x9] from k9)
 obtain rfl := (show u11 = [.int .i64 x11] from k11)
 obtain rfl := (show u12 = [.int .i64 x12] from k12)
 obtain rfl := (show u13 = [.int .i64 x13] from k13)
 obtain rfl := (show u14 = [.int .i64 x14] from k14)
 obtain rfl := (show u15 = [.string x15] from k15)
 have HG := Lib.hid (show ∀ (W : World) (b : Nat) (t : TypeId), Blk W b t vs.toArray → W.cell? ⟨b, 0, none⟩ = some (.int .i64 x0) ∧ W.cell? ⟨b, 1, none⟩ = some (.int .i64 x1) ∧ W.cell? ⟨b, 2, none⟩ = some (.slice A2 x2.length c2) ∧ W.cell? ⟨b, 3, none⟩ = some (.slice A3 x3.length c3) ∧ W.cell? ⟨b, 4, none⟩ = some (.slice A4 x4.length c4) ∧ W.cell? ⟨b, 5, none⟩ = some (.slice A5 x5.length c5) ∧ W.cell? ⟨b, 6, none⟩ = some (.slice A6 x6.length c6) ∧ W.rangeAt b 7 u7 ∧ W.cell? ⟨b, 11, none⟩ = some (.bool x8) ∧ W.cell? ⟨b, 12, none⟩ = some (.bool x9) ∧ W.rangeAt b 13 u10 ∧ W.cell? ⟨b, 16, none⟩ = some (.int .i64 x11) ∧ W.cell? ⟨b, 17, none⟩ = some (.int .i64 x12) ∧ W.cell? ⟨b, 18, none⟩ = some (.int .i64 x13) ∧ W.cell? ⟨b, 19, none⟩ = some (.int .i64 x14) ∧ W.cell? ⟨b, 20, none⟩ = some (.string x15) from fun W b t hB => by
  have q := blk_all hB
  obtain ⟨p0, q⟩ := rsp eu0 rfl q
  obtain ⟨p1, q⟩ := rsp eu1 rfl q
  obtain ⟨p2, q⟩ := rsp eu2 rfl q
  obtain ⟨p3, q⟩ := rsp eu3 rfl q
  obtain ⟨p4, q⟩ := rsp eu4 rfl q
  obtain ⟨p5, q⟩ := rsp eu5 rfl q
  obtain ⟨p6, q⟩ := rsp eu6 rfl q
  obtain ⟨p7, q⟩ := rsp eu7 (shLocals.R_len k7) q
  obtain ⟨p8, q⟩ := rsp eu8 rfl q
  obtain ⟨p9, q⟩ := rsp eu9 rfl q
  obtain ⟨p10, q⟩ := rsp eu10 (shRef.R_len k10) q
  obtain ⟨p11, q⟩ := rsp eu11 rfl q
  obtain ⟨p12, q⟩ := rsp eu12 rfl q
  obtain ⟨p13, q⟩ := rsp eu13 rfl q
  obtain ⟨p14, q⟩ := rsp eu14 rfl q
  exact ⟨rng_one p0, rng_one p1, rng_one p2, rng_one p3, rng_one p4, rng_one p5, rng_one p6, p7, rng_one p8, rng_one p9, p10, rng_one p11, rng_one p12, rng_one p13, rng_one p14, rng_one q⟩)
 clear eu0 eu1 eu2 eu3 eu4 eu5 eu6 eu7 eu8 eu9 eu10 eu11 eu12 eu13 eu14
 obtain ⟨v0, rv0, ev0, l0, v1, rv1, ev1, l1, v2, rv2, ev2, l2, v3, rv3, ev3, l3, v4, rv4, ev4, l4, v5, rv5, ev5, l5, v6, rv6, ev6, l6, v7, rv7, ev7, l7, v8, rv8, ev8, l8, v9, rv9, ev9, l9, v10, rv10, ev10, l10, v11, rv11, ev11, l11, v12, rv12, ev12, l12, v13, rv13, ev13, l13, v14, rv14, ev14, l14, l15⟩ := h'
 generalize rv14 = v15 at *
 obtain rfl := (show v0 = [.int .i64 y0] from l0)
 obtain rfl := (show v1 = [.int .i64 y1] from l1)
 have ql2 := l2; obtain ⟨B2, d2, rfl, _⟩ := ql2
 have ql3 := l3; obtain ⟨B3, d3, rfl, _⟩ := ql3
 have ql4 := l4; obtain ⟨B4, d4, rfl, _⟩ := ql4
 have ql5 := l5; obtain ⟨B5, d5, rfl, _⟩ := ql5
 have ql6 := l6; obtain ⟨B6, d6, rfl, _⟩ := ql6
 obtain rfl := (show v8 = [.bool y8] from l8)
 obtain rfl := (show v9 = [.bool y9] from l9)
 obtain rfl := (show v11 = [.int .i64 y11] from l11)
 obtain rfl := (show v12 = [.int .i64 y12] from l12)
 obtain rfl := (show v13 = [.int .i64 y13] from l13)
 obtain rfl := (show v14 = [.int .i64 y14] from l14)
 obtain rfl := (show v15 = [.string y15] from l15)
 have HH := Lib.hid (show ∀ (W : World) (b : Nat) (t : TypeId), Blk W b t us.toArray → W.cell? ⟨b, 0, none⟩ = some (.int .i64 y0) ∧ W.cell? ⟨b, 1, none⟩ = some (.int .i64 y1) ∧ W.cell? ⟨b, 2, none⟩ = some (.slice B2 y2.length d2) ∧ W.cell? ⟨b, 3, none⟩ = some (.slice B3 y3.length d3) ∧ W.cell? ⟨b, 4, none⟩ = some (.slice B4 y4.length d4) ∧ W.cell? ⟨b, 5, none⟩ = some (.slice B5 y5.length d5) ∧ W.cell? ⟨b, 6, none⟩ = some (.slice B6 y6.length d6) ∧ W.rangeAt b 7 v7 ∧ W.cell? ⟨b, 11, none⟩ = some (.bool y8) ∧ W.cell? ⟨b, 12, none⟩ = some (.bool y9) ∧ W.rangeAt b 13 v10 ∧ W.cell? ⟨b, 16, none⟩ = some (.int .i64 y11) ∧ W.cell? ⟨b, 17, none⟩ = some (.int .i64 y12) ∧ W.cell? ⟨b, 18, none⟩ = some (.int .i64 y13) ∧ W.cell? ⟨b, 19, none⟩ = some (.int .i64 y14) ∧ W.cell? ⟨b, 20, none⟩ = some (.string y15) from fun W b t hB => by
  have q := blk_all hB
  obtain ⟨p0, q⟩ := rsp ev0 rfl q
  obtain ⟨p1, q⟩ := rsp ev1 rfl q
  obtain ⟨p2, q⟩ := rsp ev2 rfl q
  obtain ⟨p3, q⟩ := rsp ev3 rfl q
  obtain ⟨p4, q⟩ := rsp ev4 rfl q
  obtain ⟨p5, q⟩ := rsp ev5 rfl q
  obtain ⟨p6, q⟩ := rsp ev6 rfl q
  obtain ⟨p7, q⟩ := rsp ev7 (shLocals.R_len l7) q
  obtain ⟨p8, q⟩ := rsp ev8 rfl q
  obtain ⟨p9, q⟩ := rsp ev9 rfl q
  obtain ⟨p10, q⟩ := rsp ev10 (shRef.R_len l10) q
  obtain ⟨p11, q⟩ := rsp ev11 rfl q
  obtain ⟨p12, q⟩ := rsp ev12 rfl q
  obtain ⟨p13, q⟩ := rsp ev13 rfl q
  obtain ⟨p14, q⟩ := rsp ev14 rfl q
  exact ⟨rng_one p0, rng_one p1, rng_one p2, rng_one p3, rng_one p4, rng_one p5, rng_one p6, p7, rng_one p8, rng_one p9, p10, rng_one p11, rng_one p12, rng_one p13, rng_one p14, rng_one q⟩)
 clear ev0 ev1 ev2 ev3 ev4 ev5 ev6 ev7 ev8 ev9 ev10 ev11 ev12 ev13 ev14
 have R0 := (((((((((((((((((Stand.nil w).ad (Sh.row 9 shS).R [.slice A2 x2.length c2] x2 hhi k2 (Sh.row 9 shS).R_keep).ad (Sh.row 152 shRef).R [.slice A3 x3.length c3] x3 hhi k3 (Sh.row 152 shRef).R_keep).ad (Sh.row 322 shGiven).R [.slice A4 x4.length c4] x4 hhi k4 (Sh.row 322 shGiven).R_keep).ad (Sh.row 325 shLoop).R [.slice A5 x5.length c5] x5 hhi k5 (Sh.row 325 shLoop).R_keep).ad (Sh.row 328 shFrame).R [.slice A6 x6.length c6] x6 hhi k6 (Sh.row 328 shFrame).R_keep).ad shLocals.R u7 X7 hhi k7 shLocals.R_keep).ad shRef.R u10 X10 hhi k10 shRef.R_keep).ad (Sh.row 9 shS).R [.slice B2 y2.length d2] y2 hhi' l2 (Sh.row 9 shS).R_keep).ad (Sh.row 152 shRef).R [.slice B3 y3.length d3] y3 hhi' l3 (Sh.row 152 shRef).R_keep).ad (Sh.row 322 shGiven).R [.slice B4 y4.length d4] y4 hhi' l4 (Sh.row 322 shGiven).R_keep).ad (Sh.row 325 shLoop).R [.slice B5 y5.length d5] y5 hhi' l5 (Sh.row 325 shLoop).R_keep).ad (Sh.row 328 shFrame).R [.slice B6 y6.length d6] y6 hhi' l6 (Sh.row 328 shFrame).R_keep).ad shLocals.R v7 Y7 hhi' l7 shLocals.R_keep).ad shRef.R v10 Y10 hhi' l10 shRef.R_keep).box 154 vs.toArray).box 154 us.toArray)
 rw [heap_alloc_size1] at R0
 have HR0 := Lib.hid R0
 have HZ7 := slH sizeILocals k7
 have HY7 := slH sizeILocals l7
 have HZ10 := slH sizeIRef k10
 have HY10 := slH sizeIRef l10
 clear R0 k2 l2 k3 l3 k4 l4 k5 l5 k6 l6 k7 l7 k10 l10
 go_enter Tryz.func184, Tryz.ntmps184
 (try dsimp only [List.append])
 have f0 := (HG.out _ _ _ (HR0.out.get 1 rfl)).1
 have g0 := (HH.out _ _ _ (HR0.out.get 0 rfl)).1
 have f1 := (HG.out _ _ _ (HR0.out.get 1 rfl)).2.1
 have g1 := (HH.out _ _ _ (HR0.out.get 0 rfl)).2.1
 have f2 := (HG.out _ _ _ (HR0.out.get 1 rfl)).2.2.1
 have g2 := (HH.out _ _ _ (HR0.out.get 0 rfl)).2.2.1
 by_cases hne : x0 = y0
 rotate_left
 ·have HF := nf (fun X : TyMachine => X.1) HANS hne
  have hq : (x0 == y0) = false := beq_eq_false_iff_ne.2 hne
  have hq2 : (x0 != y0) = true := by simp [hq, bne]
  clear hne
  go_wp2_with fail
  go_ret
  exact ⟨by rw [HF.out]; rfl, HR0.out.1⟩
 subst hne
 by_cases hne : x1 = y1
 rotate_left
 ·have HF := nf (fun X : TyMachine => X.2.1) HANS hne
  have hq : (x1 == y1) = false := beq_eq_false_iff_ne.2 hne
  have hq2 : (x1 != y1) = true := by simp [hq, bne]
  clear hne
  go_wp2_with fail
  go_ret
  exact ⟨by rw [HF.out]; rfl, HR0.out.1⟩
 subst hne
 go_wp2_with fail
 refine (l02Same_r A2 B2 c2 d2 x2 y2 lo hi lo' hi' _ (HR0.out.get 15 rfl) (HR0.out.get 8 rfl) (HR0.out.le 15 rfl) (HR0.out.le 8 rfl) ft2.1 gt2.1).mono ?_
 rintro e2 w2 ⟨rfl, hb2⟩
 have HR1 := Lib.hid (HR0.out.below hb2)
 clear hb2 HR0 f0 g0 f1 g1 f2 g2
 by_cases hne : x2 = y2
 rotate_left
 ·rw [same_f hne]
  have HF := nf (fun X : TyMachine => X.2.2.1) HANS hne
  clear hne
  go_wp2_with fail
  go_ret
  exact ⟨by rw [HF.out]; rfl, HR1.out.1⟩
 rw [same_t hne]
 subst hne
 have f3 := (HG.out _ _ _ (HR1.out.get 1 rfl)).2.2.2.1
 have g3 := (HH.out _ _ _ (HR1.out.get 0 rfl)).2.2.2.1
 have f4 := (HG.out _ _ _ (HR1.out.get 1 rfl)).2.2.2.2.1
 have g4 := (HH.out _ _ _ (HR1.out.get 0 rfl)).2.2.2.2.1
 have f5 := (HG.out _ _ _ (HR1.out.get 1 rfl)).2.2.2.2.2.1
 have g5 := (HH.out _ _ _ (HR1.out.get 0 rfl)).2.2.2.2.2.1
 have f6 := (HG.out _ _ _ (HR1.out.get 1 rfl)).2.2.2.2.2.2.1
 have g6 := (HH.out _ _ _ (HR1.out.get 0 rfl)).2.2.2.2.2.2.1
 by_cases hne : x3.length = y3.length
 rotate_left
 ·have HF := nf (fun X : TyMachine => (X.2.2.2.1).length) HANS hne
  have n1 : ((x3.length : Int) == (y3.length : Int)) = false := by rw [beq_eq_false_iff_ne]; omega
  have n2 : ((x3.length : Int) != (y3.length : Int)) = true := by rw [bne_iff_ne]; omega
  clear hne
  go_wp2_with fail
  go_ret
  exact ⟨by rw [HF.out]; rfl, HR1.out.1⟩
 have HL3 := Lib.hid hne
 have m3 : ((x3.length : Int) == (y3.length : Int)) = true := by rw [beq_iff_eq]; omega
 have n3 : ((x3.length : Int) != (y3.length : Int)) = false := by rw [hne]; simp
 clear hne
 by_cases hne : x4.length = y4.length
 rotate_left
 ·have HF := nf (fun X : TyMachine => (X.2.2.2.2.1).length) HANS hne
  have n1 : ((x4.length : Int) == (y4.length : Int)) = false := by rw [beq_eq_false_iff_ne]; omega
  have n2 : ((x4.length : Int) != (y4.length : Int)) = true := by rw [bne_iff_ne]; omega
  clear hne
  go_wp2_with fail
  go_ret
  exact ⟨by rw [HF.out]; rfl, HR1.out.1⟩
 have HL4 := Lib.hid hne
 have m4 : ((x4.length : Int) == (y4.length : Int)) = true := by rw [beq_iff_eq]; omega
 have n4 : ((x4.length : Int) != (y4.length : Int)) = false := by rw [hne]; simp
 clear hne
 by_cases hne : x5.length = y5.length
 rotate_left
 ·have HF := nf (fun X : TyMachine => (X.2.2.2.2.2.1).length) HANS hne
  have n1 : ((x5.length : Int) == (y5.length : Int)) = false := by rw [beq_eq_false_iff_ne]; omega
  have n2 : ((x5.length : Int) != (y5.length : Int)) = true := by rw [bne_iff_ne]; omega
  clear hne
  go_wp2_with fail
  go_ret
  exact ⟨by rw [HF.out]; rfl, HR1.out.1⟩
 have HL5 := Lib.hid hne
 have m5 : ((x5.length : Int) == (y5.length : Int)) = true := by rw [beq_iff_eq]; omega
 have n5 : ((x5.length : Int) != (y5.length : Int)) = false := by rw [hne]; simp
 clear hne
 by_cases hne : x6.length = y6.length
 rotate_left
 ·have HF := nf (fun X : TyMachine => (X.2.2.2.2.2.2.1).length) HANS hne
  have n1 : ((x6.length : Int) == (y6.length : Int)) = false := by rw [beq_eq_false_iff_ne]; omega
  have n2 : ((x6.length : Int) != (y6.length : Int)) = true := by rw [bne_iff_ne]; omega
  clear hne
  go_wp2_with fail
  go_ret
  exact ⟨by rw [HF.out]; rfl, HR1.out.1⟩
 have HL6 := Lib.hid hne
 have m6 : ((x6.length : Int) == (y6.length : Int)) = true := by rw [beq_iff_eq]; omega
 have n6 : ((x6.length : Int) != (y6.length : Int)) = false := by rw [hne]; simp
 clear hne
 go_wp2_with fail
 obtain ⟨Q, q0, qs, qg⟩ := HR1.out.veilQ
 have HQ0 := Lib.hid q0; have QS := Lib.hid qs; have QG := Lib.hid qg
 clear q0 qs qg HR1 f3 g3 f4 g4 f5 g5 f6 g6 m3 n3 m4 n4 m5 n5 m6 n6
 have hn3 := ft3.1
 go_loopw [5] (fun i wr => ∃ k : Nat, k ≤ x3.length ∧ i = .int .i64 k ∧ Hid (x3.take k = y3.take k) ∧ Hid (Q wr)) (fun i _ => x3.length - (intOf i).toNat)
 case atStart => exact ⟨0, Nat.zero_le _, rfl, Lib.hid rfl, HQ0⟩
 case round =>
  obtain ⟨k, hk, rfl, htk, hq3⟩ := hrel
  have HRr := Lib.hid (QG.out _ hq3.out)
  have f3 := (HG.out _ _ _ (HRr.out.get 1 rfl)).2.2.2.1
  have g3 := (HH.out _ _ _ (HRr.out.get 0 rfl)).2.2.2.1
  by_cases hlt : k < x3.length
  ·have hly : k < y3.length := by have := HL3.out; omega
   obtain ⟨b, off, rfl, hb1, hb2, us, hc, hX⟩ := row_at (HRr.out.get 14 rfl) hlt
   obtain ⟨b', off', rfl, hb1', hb2', us', hc', hX'⟩ := row_at (HRr.out.get 7 rfl) hly
   have HST := Lib.hid (fun he => take_step (d := shRef.d) htk.out hlt HL3.out he)
   have HNE := Lib.hid (fun he => ne_at (xs := x3) (ys := y3) (d := shRef.d) (k := k) he)
   have HX := Lib.hid (ft3.2 _ (getD_in (d := shRef.d) hlt)); have HX' := Lib.hid (gt3.2 _ (getD_in (d := shRef.d) hly))
   generalize x3.getD k shRef.d = EX at *
   generalize y3.getD k shRef.d = EY at *
   have HR := Lib.hid (show shRef.R wr.drew lo hi us EX from shRef.R_below hX (below_drewN' wr 1) (HRr.out.le 14 rfl)); have HR' := Lib.hid (show shRef.R wr.drew lo' hi' us' EY from shRef.R_below hX' (below_drewN' wr 1) (HRr.out.le 7 rfl))
   have HC := Lib.hid (show wr.drew.rangeAt b (off + k * 3) us from rng_of hc); have HC' := Lib.hid (show wr.drew.rangeAt b' (off' + k * 3) us' from rng_of hc')
   have HZ := slH sizeIRef hX; have HZ' := slH sizeIRef hX'
   have HQd := Lib.hid (QS.out _ wr.drew hq3.out (below_drewN' wr 1))
   have HRd := Lib.hid (QG.out _ HQd.out)
   have HF1 := Lib.hid (show wr.drew.cell? _ = _ from (HG.out _ _ _ (HRd.out.get 1 rfl)).2.2.2.1); have HF2 := Lib.hid (show wr.drew.cell? _ = _ from (HH.out _ _ _ (HRd.out.get 0 rfl)).2.2.2.1)
   clear hX hX' hc hc' htk HRr
   go_upto_region 6 with fail
   clear f3 g3
   refine AnyT.region (fun _ => false) (fun W => (W.cell? ⟨w.heap.size, 3, none⟩ = some (.slice (some ⟨b, off, none⟩) x3.length c3) ∧ W.cell? ⟨w.heap.size + 1, 3, none⟩ = some (.slice (some ⟨b', off', none⟩) y3.length d3)) ∧ W.rangeAt b (off + k * 3) us ∧ W.rangeAt b' (off' + k * 3) us') (by kernel_rfl) ⟨⟨HF1.out, HF2.out⟩, HC.out, HC'.out⟩ (fun hHeld => ?_)
   generalize wr.drew = w4 at *
   (refine AnyT.ta 0 72 ?_; simp only [Act.put, za, zb, zc])
   (refine AnyT.tk 1 73 ?_; simp only [Act.put, za, zb, zc])
   (refine AnyT.ta 2 74 ?_; simp only [Act.put, za, zb, zc])
   (refine AnyT.ta 3 75 ?_; simp only [Act.put, za, zb, zc])
   refine AnyT.tx 4 76 (.agg us.toArray) (fun W hS => exec_loadMid _ _ rfl b (off + k * 3) rfl us hS.2.1 Tryz.underlying152 rfl HZ.out) ?_
   simp only [Act.put, za, zb, zc]
   (refine AnyT.ta 5 77 ?_; simp only [Act.put, za, zb, zc])
   (refine AnyT.tk 6 78 ?_; simp only [Act.put, za, zb, zc])
   (refine AnyT.ta 7 79 ?_; simp only [Act.put, za, zb, zc])
   (refine AnyT.ta 8 80 ?_; simp only [Act.put, za, zb, zc])
   refine AnyT.tx 9 81 (.agg us'.toArray) (fun W hS => exec_loadMid _ _ rfl b' (off' + k * 3) rfl us' hS.2.2 Tryz.underlying152 rfl HZ'.out) ?_
   simp only [Act.put, za, zb, zc]
   ((refine AnyT.one (i := 10) (by kernel_rfl) rfl (fun K hK => ?_)))
   go_simp
   refine (l14SameRef_o EX EY us us' lo hi lo' hi' w4 HR.out HR'.out (HRd.out.le 14 rfl) (HRd.out.le 7 rfl) HX.out HX'.out).mono ?_
   rintro e5 w5 ⟨rfl, hb5⟩
   go_simp
   have HQ5 := Lib.hid (QS.out _ w5 HQd.out hb5)
   have HRe := Lib.hid (QG.out _ HQ5.out)
   refine hK.out _ _ ⟨⟨(HG.out _ _ _ (HRe.out.get 1 rfl)).2.2.2.1, (HH.out _ _ _ (HRe.out.get 0 rfl)).2.2.2.1⟩, rng_below HC.out hb5 (Nat.lt_of_lt_of_le hb2 (HRd.out.le 14 rfl)), rng_below HC'.out hb5 (Nat.lt_of_lt_of_le hb2' (HRd.out.le 7 rfl))⟩ (fun hHeld => ?_)
   clear hK K hb5 HC HC'
   (try simp only [Act.put, za, zb, zc])
   (refine AnyT.ta 11 83 ?_; simp only [Act.put, za, zb, zc])
   refine AnyT.done (by kernel_rfl) ?_ _
   clear hHeld
   by_cases hxy : EX = EY
   ·have HS2 := Lib.hid (HST.out hxy)
    rw [same_t hxy]
    clear HST HNE hxy
    go_wp2_with fail
    go_roundw
    case rel => exact ⟨k + 1, by omega, by go_num, HS2, HQ5⟩
    case measure => simp [intOf]; omega
   ·have HFF := Lib.hid (HANS.out.trans (same_f (fun e => HNE.out hxy (congrArg (fun X : TyMachine => X.2.2.2.1) e))))
    rw [same_f hxy]
    clear hxy HST HNE
    go_wp2_with fail
    go_ret
    exact ⟨by rw [HFF.out]; rfl, (QG.out _ HQ5.out).1⟩
  ·obtain rfl : k = x3.length := by omega
   have he := take_all htk.out HL3.out
   clear htk HRr
   subst he
   go_wp2_with fail
   have hn4 := ft4.1
   go_loopw [6] (fun i wr => ∃ k : Nat, k ≤ x4.length ∧ i = .int .i64 k ∧ Hid (x4.take k = y4.take k) ∧ Hid (Q wr)) (fun i _ => x4.length - (intOf i).toNat)
   case atStart => exact ⟨0, Nat.zero_le _, rfl, Lib.hid rfl, hq3⟩
   case round =>
    obtain ⟨k, hk, rfl, htk, hq4⟩ := hrel
    have HRr := Lib.hid (QG.out _ hq4.out)
    have f4 := (HG.out _ _ _ (HRr.out.get 1 rfl)).2.2.2.2.1
    have g4 := (HH.out _ _ _ (HRr.out.get 0 rfl)).2.2.2.2.1
    by_cases hlt : k < x4.length
    ·have hly : k < y4.length := by have := HL4.out; omega
     obtain ⟨b, off, rfl, hb1, hb2, us, hc, hX⟩ := row_at (HRr.out.get 13 rfl) hlt
     obtain ⟨b', off', rfl, hb1', hb2', us', hc', hX'⟩ := row_at (HRr.out.get 6 rfl) hly
     have HST := Lib.hid (fun he => take_step (d := shGiven.d) htk.out hlt HL4.out he)
     have HNE := Lib.hid (fun he => ne_at (xs := x4) (ys := y4) (d := shGiven.d) (k := k) he)
     generalize x4.getD k shGiven.d = EX at *
     generalize y4.getD k shGiven.d = EY at *
     obtain ⟨p0, p1⟩ := EX
     obtain ⟨q0, q1⟩ := EY
     obtain rfl : us = [.bool p0, .string p1] := shGiven_R.1 hX
     obtain rfl : us' = [.bool q0, .string q1] := shGiven_R.1 hX'
     have HC := Lib.hid (show wr.drew.rangeAt b (off + k * 2) [.bool p0, .string p1] from rng_of hc); have HC' := Lib.hid (show wr.drew.rangeAt b' (off' + k * 2) [.bool q0, .string q1] from rng_of hc')
     have HZ := slH sizeIGiven hX; have HZ' := slH sizeIGiven hX'
     have HQd := Lib.hid (QS.out _ wr.drew hq4.out (below_drewN' wr 1))
     have HRd := Lib.hid (QG.out _ HQd.out)
     have HF1 := Lib.hid (show wr.drew.cell? _ = _ from (HG.out _ _ _ (HRd.out.get 1 rfl)).2.2.2.2.1); have HF2 := Lib.hid (show wr.drew.cell? _ = _ from (HH.out _ _ _ (HRd.out.get 0 rfl)).2.2.2.2.1)
     clear hX hX' hc hc' htk HRr
     go_upto_region 11 with fail
     clear f4 g4
     refine AnyT.region (fun _ => false) (fun W => (W.cell? ⟨w.heap.size, 4, none⟩ = some (.slice (some ⟨b, off, none⟩) x4.length c4) ∧ W.cell? ⟨w.heap.size + 1, 4, none⟩ = some (.slice (some ⟨b', off', none⟩) y4.length d4)) ∧ W.rangeAt b (off + k * 2) [.bool p0, .string p1] ∧ W.rangeAt b' (off' + k * 2) [.bool q0, .string q1]) (by kernel_rfl) ⟨⟨HF1.out, HF2.out⟩, HC.out, HC'.out⟩ (fun hHeld => ?_)
     generalize wr.drew = w4 at *
     (refine AnyT.ta 0 91 ?_; simp only [Act.put, za, zb, zc])
     (refine AnyT.tk 1 92 ?_; simp only [Act.put, za, zb, zc])
     (refine AnyT.ta 2 93 ?_; simp only [Act.put, za, zb, zc])
     (refine AnyT.ta 3 94 ?_; simp only [Act.put, za, zb, zc])
     refine AnyT.tx 4 95 (.agg ([.bool p0, .string p1] : List Value).toArray) (fun W hS => exec_loadMid _ _ rfl b (off + k * 2) rfl _ hS.2.1 Tryz.underlying322 rfl HZ.out) ?_
     simp only [Act.put, za, zb, zc]
     (refine AnyT.ta 5 96 ?_; simp only [Act.put, za, zb, zc])
     (refine AnyT.tk 6 97 ?_; simp only [Act.put, za, zb, zc])
     (refine AnyT.ta 7 98 ?_; simp only [Act.put, za, zb, zc])
     (refine AnyT.ta 8 99 ?_; simp only [Act.put, za, zb, zc])
     refine AnyT.tx 9 100 (.agg ([.bool q0, .string q1] : List Value).toArray) (fun W hS => exec_loadMid _ _ rfl b' (off' + k * 2) rfl _ hS.2.2 Tryz.underlying322 rfl HZ'.out) ?_
     simp only [Act.put, za, zb, zc]
     refine AnyT.takeAny 10 101 (.bool (!sameB (p0, p1) (q0, q1))) rfl (by kernel_rfl) (by kernel_rfl) (by kernel_rfl) rfl rfl (fun _ _ _ _ h => h) rfl (fun W => exec_neq rfl rfl rfl (by kernel_rfl) (fun w => equalGiven _ _ _ _ w)) (by assumption) ?_
     simp only [Act.put, za, zb, zc]
     have HQ5 := HQd
     refine AnyT.done (by kernel_rfl) ?_ _
     clear hHeld
     by_cases hxy : (p0, p1) = (q0, q1)
     ·have HS2 := Lib.hid (HST.out hxy)
      rw [same_t hxy]
      clear HST HNE hxy
      go_wp2_with fail
      go_roundw
      case rel => exact ⟨k + 1, by omega, by go_num, HS2, HQ5⟩
      case measure => simp [intOf]; omega
     ·have HFF := Lib.hid (HANS.out.trans (same_f (fun e => HNE.out hxy (congrArg (fun X : TyMachine => X.2.2.2.2.1) e))))
      rw [same_f hxy]
      clear hxy HST HNE
      go_wp2_with fail
      go_ret
      exact ⟨by rw [HFF.out]; rfl, (QG.out _ HQ5.out).1⟩
    ·obtain rfl : k = x4.length := by omega
     have he := take_all htk.out HL4.out
     clear htk HRr
     subst he
     go_wp2_with fail
     have hn5 := ft5.1
     go_loopw [7] (fun i wr => ∃ k : Nat, k ≤ x5.length ∧ i = .int .i64 k ∧ Hid (x5.take k = y5.take k) ∧ Hid (Q wr)) (fun i _ => x5.length - (intOf i).toNat)
     case atStart => exact ⟨0, Nat.zero_le _, rfl, Lib.hid rfl, hq4⟩
     case round =>
      obtain ⟨k, hk, rfl, htk, hq5⟩ := hrel
      have HRr := Lib.hid (QG.out _ hq5.out)
      have f5 := (HG.out _ _ _ (HRr.out.get 1 rfl)).2.2.2.2.2.1
      have g5 := (HH.out _ _ _ (HRr.out.get 0 rfl)).2.2.2.2.2.1
      by_cases hlt : k < x5.length
      ·have hly : k < y5.length := by have := HL5.out; omega
       obtain ⟨b, off, rfl, hb1, hb2, us, hc, hX⟩ := row_at (HRr.out.get 12 rfl) hlt
       obtain ⟨b', off', rfl, hb1', hb2', us', hc', hX'⟩ := row_at (HRr.out.get 5 rfl) hly
       have HST := Lib.hid (fun he => take_step (d := shLoop.d) htk.out hlt HL5.out he)
       have HNE := Lib.hid (fun he => ne_at (xs := x5) (ys := y5) (d := shLoop.d) (k := k) he)
       generalize x5.getD k shLoop.d = EX at *
       generalize y5.getD k shLoop.d = EY at *
       obtain ⟨p0, p1, p2, p3, p4, p5⟩ := EX
       obtain ⟨q0, q1, q2, q3, q4, q5⟩ := EY
       obtain rfl : us = [.string p0, .int .i64 p1, .int .i64 p2, .bool p3, .int .i64 p4, .int .i64 p5] := shLoop_R.1 hX
       obtain rfl : us' = [.string q0, .int .i64 q1, .int .i64 q2, .bool q3, .int .i64 q4, .int .i64 q5] := shLoop_R.1 hX'
       have HC := Lib.hid (show wr.drew.rangeAt b (off + k * 6) [.string p0, .int .i64 p1, .int .i64 p2, .bool p3, .int .i64 p4, .int .i64 p5] from rng_of hc); have HC' := Lib.hid (show wr.drew.rangeAt b' (off' + k * 6) [.string q0, .int .i64 q1, .int .i64 q2, .bool q3, .int .i64 q4, .int .i64 q5] from rng_of hc')
       have HZ := slH sizeILoop hX; have HZ' := slH sizeILoop hX'
       have HQd := Lib.hid (QS.out _ wr.drew hq5.out (below_drewN' wr 1))
       have HRd := Lib.hid (QG.out _ HQd.out)
       have HF1 := Lib.hid (show wr.drew.cell? _ = _ from (HG.out _ _ _ (HRd.out.get 1 rfl)).2.2.2.2.2.1); have HF2 := Lib.hid (show wr.drew.cell? _ = _ from (HH.out _ _ _ (HRd.out.get 0 rfl)).2.2.2.2.2.1)
       clear hX hX' hc hc' htk HRr
       go_upto_region 16 with fail
       clear f5 g5
       refine AnyT.region (fun _ => false) (fun W => (W.cell? ⟨w.heap.size, 5, none⟩ = some (.slice (some ⟨b, off, none⟩) x5.length c5) ∧ W.cell? ⟨w.heap.size + 1, 5, none⟩ = some (.slice (some ⟨b', off', none⟩) y5.length d5)) ∧ W.rangeAt b (off + k * 6) [.string p0, .int .i64 p1, .int .i64 p2, .bool p3, .int .i64 p4, .int .i64 p5] ∧ W.rangeAt b' (off' + k * 6) [.string q0, .int .i64 q1, .int .i64 q2, .bool q3, .int .i64 q4, .int .i64 q5]) (by kernel_rfl) ⟨⟨HF1.out, HF2.out⟩, HC.out, HC'.out⟩ (fun hHeld => ?_)
       generalize wr.drew = w4 at *
       (refine AnyT.ta 0 109 ?_; simp only [Act.put, za, zb, zc])
       (refine AnyT.tk 1 110 ?_; simp only [Act.put, za, zb, zc])
       (refine AnyT.ta 2 111 ?_; simp only [Act.put, za, zb, zc])
       (refine AnyT.ta 3 112 ?_; simp only [Act.put, za, zb, zc])
       refine AnyT.tx 4 113 (.agg ([.string p0, .int .i64 p1, .int .i64 p2, .bool p3, .int .i64 p4, .int .i64 p5] : List Value).toArray) (fun W hS => exec_loadMid _ _ rfl b (off + k * 6) rfl _ hS.2.1 Tryz.underlying325 rfl HZ.out) ?_
       simp only [Act.put, za, zb, zc]
       (refine AnyT.ta 5 114 ?_; simp only [Act.put, za, zb, zc])
       (refine AnyT.tk 6 115 ?_; simp only [Act.put, za, zb, zc])
       (refine AnyT.ta 7 116 ?_; simp only [Act.put, za, zb, zc])
       (refine AnyT.ta 8 117 ?_; simp only [Act.put, za, zb, zc])
       refine AnyT.tx 9 118 (.agg ([.string q0, .int .i64 q1, .int .i64 q2, .bool q3, .int .i64 q4, .int .i64 q5] : List Value).toArray) (fun W hS => exec_loadMid _ _ rfl b' (off' + k * 6) rfl _ hS.2.2 Tryz.underlying325 rfl HZ'.out) ?_
       simp only [Act.put, za, zb, zc]
       refine AnyT.takeAny 10 119 (.bool (!sameB (p0, p1, p2, p3, p4, p5) (q0, q1, q2, q3, q4, q5))) rfl (by kernel_rfl) (by kernel_rfl) (by kernel_rfl) rfl rfl (fun _ _ _ _ h => h) rfl (fun W => exec_neq rfl rfl rfl (by kernel_rfl) (fun w => equalLoop _ _ _ _ _ _ _ _ _ _ _ _ w)) (by assumption) ?_
       simp only [Act.put, za, zb, zc]
       have HQ5 := HQd
       refine AnyT.done (by kernel_rfl) ?_ _
       clear hHeld
       by_cases hxy : (p0, p1, p2, p3, p4, p5) = (q0, q1, q2, q3, q4, q5)
       ·have HS2 := Lib.hid (HST.out hxy)
        rw [same_t hxy]
        clear HST HNE hxy
        go_wp2_with fail
        go_roundw
        case rel => exact ⟨k + 1, by omega, by go_num, HS2, HQ5⟩
        case measure => simp [intOf]; omega
       ·have HFF := Lib.hid (HANS.out.trans (same_f (fun e => HNE.out hxy (congrArg (fun X : TyMachine => X.2.2.2.2.2.1) e))))
        rw [same_f hxy]
        clear hxy HST HNE
        go_wp2_with fail
        go_ret
        exact ⟨by rw [HFF.out]; rfl, (QG.out _ HQ5.out).1⟩
      ·obtain rfl : k = x5.length := by omega
       have he := take_all htk.out HL5.out
       clear htk HRr
       subst he
       go_wp2_with fail
       have hn6 := ft6.1
       go_loopw [8] (fun i wr => ∃ k : Nat, k ≤ x6.length ∧ i = .int .i64 k ∧ Hid (x6.take k = y6.take k) ∧ Hid (Q wr)) (fun i _ => x6.length - (intOf i).toNat)
       case atStart => exact ⟨0, Nat.zero_le _, rfl, Lib.hid rfl, hq5⟩
       case round =>
        obtain ⟨k, hk, rfl, htk, hq6⟩ := hrel
        have HRr := Lib.hid (QG.out _ hq6.out)
        have f6 := (HG.out _ _ _ (HRr.out.get 1 rfl)).2.2.2.2.2.2.1
        have g6 := (HH.out _ _ _ (HRr.out.get 0 rfl)).2.2.2.2.2.2.1
        by_cases hlt : k < x6.length
        ·have hly : k < y6.length := by have := HL6.out; omega
         obtain ⟨b, off, rfl, hb1, hb2, us, hc, hX⟩ := row_at (HRr.out.get 11 rfl) hlt
         obtain ⟨b', off', rfl, hb1', hb2', us', hc', hX'⟩ := row_at (HRr.out.get 4 rfl) hly
         have HST := Lib.hid (fun he => take_step (d := shFrame.d) htk.out hlt HL6.out he)
         have HNE := Lib.hid (fun he => ne_at (xs := x6) (ys := y6) (d := shFrame.d) (k := k) he)
         generalize x6.getD k shFrame.d = EX at *
         generalize y6.getD k shFrame.d = EY at *
         obtain ⟨p0, p1, p2, p3, p4, p5, p6, p7, p8⟩ := EX
         obtain ⟨q0, q1, q2, q3, q4, q5, q6, q7, q8⟩ := EY
         obtain rfl : us = [.int .i64 p0, .bool p1, .bool p2, .int .i64 p3, .int .i64 p4, .int .i64 p5, .int .i64 p6, .string p7, .string p8] := shFrame_R.1 hX
         obtain rfl : us' = [.int .i64 q0, .bool q1, .bool q2, .int .i64 q3, .int .i64 q4, .int .i64 q5, .int .i64 q6, .string q7, .string q8] := shFrame_R.1 hX'
         have HC := Lib.hid (show wr.drew.rangeAt b (off + k * 9) [.int .i64 p0, .bool p1, .bool p2, .int .i64 p3, .int .i64 p4, .int .i64 p5, .int .i64 p6, .string p7, .string p8] from rng_of hc); have HC' := Lib.hid (show wr.drew.rangeAt b' (off' + k * 9) [.int .i64 q0, .bool q1, .bool q2, .int .i64 q3, .int .i64 q4, .int .i64 q5, .int .i64 q6, .string q7, .string q8] from rng_of hc')
         have HZ := slH sizeIFrame hX; have HZ' := slH sizeIFrame hX'
         have HQd := Lib.hid (QS.out _ wr.drew hq6.out (below_drewN' wr 1))
         have HRd := Lib.hid (QG.out _ HQd.out)
         have HF1 := Lib.hid (show wr.drew.cell? _ = _ from (HG.out _ _ _ (HRd.out.get 1 rfl)).2.2.2.2.2.2.1); have HF2 := Lib.hid (show wr.drew.cell? _ = _ from (HH.out _ _ _ (HRd.out.get 0 rfl)).2.2.2.2.2.2.1)
         clear hX hX' hc hc' htk HRr
         go_upto_region 21 with fail
         clear f6 g6
         refine AnyT.region (fun _ => false) (fun W => (W.cell? ⟨w.heap.size, 6, none⟩ = some (.slice (some ⟨b, off, none⟩) x6.length c6) ∧ W.cell? ⟨w.heap.size + 1, 6, none⟩ = some (.slice (some ⟨b', off', none⟩) y6.length d6)) ∧ W.rangeAt b (off + k * 9) [.int .i64 p0, .bool p1, .bool p2, .int .i64 p3, .int .i64 p4, .int .i64 p5, .int .i64 p6, .string p7, .string p8] ∧ W.rangeAt b' (off' + k * 9) [.int .i64 q0, .bool q1, .bool q2, .int .i64 q3, .int .i64 q4, .int .i64 q5, .int .i64 q6, .string q7, .string q8]) (by kernel_rfl) ⟨⟨HF1.out, HF2.out⟩, HC.out, HC'.out⟩ (fun hHeld => ?_)
         generalize wr.drew = w4 at *
         (refine AnyT.ta 0 127 ?_; simp only [Act.put, za, zb, zc])
         (refine AnyT.tk 1 128 ?_; simp only [Act.put, za, zb, zc])
         (refine AnyT.ta 2 129 ?_; simp only [Act.put, za, zb, zc])
         (refine AnyT.ta 3 130 ?_; simp only [Act.put, za, zb, zc])
         refine AnyT.tx 4 131 (.agg ([.int .i64 p0, .bool p1, .bool p2, .int .i64 p3, .int .i64 p4, .int .i64 p5, .int .i64 p6, .string p7, .string p8] : List Value).toArray) (fun W hS => exec_loadMid _ _ rfl b (off + k * 9) rfl _ hS.2.1 Tryz.underlying328 rfl HZ.out) ?_
         simp only [Act.put, za, zb, zc]
         (refine AnyT.ta 5 132 ?_; simp only [Act.put, za, zb, zc])
         (refine AnyT.tk 6 133 ?_; simp only [Act.put, za, zb, zc])
         (refine AnyT.ta 7 134 ?_; simp only [Act.put, za, zb, zc])
         (refine AnyT.ta 8 135 ?_; simp only [Act.put, za, zb, zc])
         refine AnyT.tx 9 136 (.agg ([.int .i64 q0, .bool q1, .bool q2, .int .i64 q3, .int .i64 q4, .int .i64 q5, .int .i64 q6, .string q7, .string q8] : List Value).toArray) (fun W hS => exec_loadMid _ _ rfl b' (off' + k * 9) rfl _ hS.2.2 Tryz.underlying328 rfl HZ'.out) ?_
         simp only [Act.put, za, zb, zc]
         refine AnyT.takeAny 10 137 (.bool (!sameB (p0, p1, p2, p3, p4, p5, p6, p7, p8) (q0, q1, q2, q3, q4, q5, q6, q7, q8))) rfl (by kernel_rfl) (by kernel_rfl) (by kernel_rfl) rfl rfl (fun _ _ _ _ h => h) rfl (fun W => exec_neq rfl rfl rfl (by kernel_rfl) (fun w => equalFrame _ _ _ _ _ _ _ _ _ _ _ _ _ _ _ _ _ _ w)) (by assumption) ?_
         simp only [Act.put, za, zb, zc]
         have HQ5 := HQd
         refine AnyT.done (by kernel_rfl) ?_ _
         clear hHeld
         by_cases hxy : (p0, p1, p2, p3, p4, p5, p6, p7, p8) = (q0, q1, q2, q3, q4, q5, q6, q7, q8)
         ·have HS2 := Lib.hid (HST.out hxy)
          rw [same_t hxy]
          clear HST HNE hxy
          go_wp2_with fail
          go_roundw
          case rel => exact ⟨k + 1, by omega, by go_num, HS2, HQ5⟩
          case measure => simp [intOf]; omega
         ·have HFF := Lib.hid (HANS.out.trans (same_f (fun e => HNE.out hxy (congrArg (fun X : TyMachine => X.2.2.2.2.2.2.1) e))))
          rw [same_f hxy]
          clear hxy HST HNE
          go_wp2_with fail
          go_ret
          exact ⟨by rw [HFF.out]; rfl, (QG.out _ HQ5.out).1⟩
        ·obtain rfl : k = x6.length := by omega
         have he := take_all htk.out HL6.out
         clear htk HRr
         subst he
         have HR50 := Lib.hid (QG.out _ hq6.out)
         clear QS QG HQ0 hq3 hq4 hq5 hq6
         go_wp2_with (first | fail | (refine wlg w.heap.size 7 u7 (HG.out _ _ _ (HR50.out.get 1 rfl)).2.2.2.2.2.2.2.1 Tryz.underlying150 HZ7.out ?_) | (refine wlg (w.heap.size + 1) 7 v7 (HH.out _ _ _ (HR50.out.get 0 rfl)).2.2.2.2.2.2.2.1 Tryz.underlying150 HY7.out ?_))
         refine (sSameLocals_o X7 Y7 u7 v7 lo hi lo' hi' _ (HR50.out.get 10 rfl) (HR50.out.get 3 rfl) (HR50.out.le 10 rfl) (HR50.out.le 3 rfl) ft7 gt7).mono ?_
         rintro e7 w7 ⟨rfl, hb7⟩
         have HR51 := Lib.hid (HR50.out.below hb7)
         clear hb7 HR50  
         by_cases hne : X7 = Y7
         rotate_left
         ·rw [same_f hne]
          have HF := nf (fun X : TyMachine => X.2.2.2.2.2.2.2.1) HANS hne
          clear hne
          go_wp2_with fail
          go_ret
          exact ⟨by rw [HF.out]; rfl, HR51.out.1⟩
         rw [same_t hne]
         subst hne
         have f8 := (HG.out _ _ _ (HR51.out.get 1 rfl)).2.2.2.2.2.2.2.2.1
         have g8 := (HH.out _ _ _ (HR51.out.get 0 rfl)).2.2.2.2.2.2.2.2.1
         have f9 := (HG.out _ _ _ (HR51.out.get 1 rfl)).2.2.2.2.2.2.2.2.2.1
         have g9 := (HH.out _ _ _ (HR51.out.get 0 rfl)).2.2.2.2.2.2.2.2.2.1
         by_cases hne : x8 = y8
         rotate_left
         ·have HF := nf (fun X : TyMachine => X.2.2.2.2.2.2.2.2.1) HANS hne
          have hq : (x8 == y8) = false := beq_eq_false_iff_ne.2 hne
          have hq2 := hq; (try simp only [beq_eq_false_iff_ne, ne_eq] at hq2)
          clear hne
          go_wp2_with fail
          go_ret
          exact ⟨by rw [HF.out]; rfl, HR51.out.1⟩
         subst hne
         by_cases hne : x9 = y9
         rotate_left
         ·have HF := nf (fun X : TyMachine => X.2.2.2.2.2.2.2.2.2.1) HANS hne
          have hq : (x9 == y9) = false := beq_eq_false_iff_ne.2 hne
          have hq2 := hq; (try simp only [beq_eq_false_iff_ne, ne_eq] at hq2)
          clear hne
          go_wp2_with fail
          go_ret
          exact ⟨by rw [HF.out]; rfl, HR51.out.1⟩
         subst hne
         go_wp2_with (first | fail | (refine wlg w.heap.size 13 u10 (HG.out _ _ _ (HR51.out.get 1 rfl)).2.2.2.2.2.2.2.2.2.2.1 Tryz.underlying152 HZ10.out ?_) | (refine wlg (w.heap.size + 1) 13 v10 (HH.out _ _ _ (HR51.out.get 0 rfl)).2.2.2.2.2.2.2.2.2.2.1 Tryz.underlying152 HY10.out ?_))
         refine (l14SameRef_o X10 Y10 u10 v10 lo hi lo' hi' _ (HR51.out.get 9 rfl) (HR51.out.get 2 rfl) (HR51.out.le 9 rfl) (HR51.out.le 2 rfl) ft10 gt10).mono ?_
         rintro e10 w10 ⟨rfl, hb10⟩
         have HR52 := Lib.hid (HR51.out.below hb10)
         clear hb10 HR51  f8 g8 f9 g9
         by_cases hne : X10 = Y10
         rotate_left
         ·rw [same_f hne]
          have HF := nf (fun X : TyMachine => X.2.2.2.2.2.2.2.2.2.2.1) HANS hne
          clear hne
          go_wp2_with fail
          go_ret
          exact ⟨by rw [HF.out]; rfl, HR52.out.1⟩
         rw [same_t hne]
         subst hne
         have f11 := (HG.out _ _ _ (HR52.out.get 1 rfl)).2.2.2.2.2.2.2.2.2.2.2.1
         have g11 := (HH.out _ _ _ (HR52.out.get 0 rfl)).2.2.2.2.2.2.2.2.2.2.2.1
         have f12 := (HG.out _ _ _ (HR52.out.get 1 rfl)).2.2.2.2.2.2.2.2.2.2.2.2.1
         have g12 := (HH.out _ _ _ (HR52.out.get 0 rfl)).2.2.2.2.2.2.2.2.2.2.2.2.1
         have f13 := (HG.out _ _ _ (HR52.out.get 1 rfl)).2.2.2.2.2.2.2.2.2.2.2.2.2.1
         have g13 := (HH.out _ _ _ (HR52.out.get 0 rfl)).2.2.2.2.2.2.2.2.2.2.2.2.2.1
         have f14 := (HG.out _ _ _ (HR52.out.get 1 rfl)).2.2.2.2.2.2.2.2.2.2.2.2.2.2.1
         have g14 := (HH.out _ _ _ (HR52.out.get 0 rfl)).2.2.2.2.2.2.2.2.2.2.2.2.2.2.1
         have f15 := (HG.out _ _ _ (HR52.out.get 1 rfl)).2.2.2.2.2.2.2.2.2.2.2.2.2.2.2
         have g15 := (HH.out _ _ _ (HR52.out.get 0 rfl)).2.2.2.2.2.2.2.2.2.2.2.2.2.2.2
         by_cases hne : x11 = y11
         rotate_left
         ·have HF := nf (fun X : TyMachine => X.2.2.2.2.2.2.2.2.2.2.2.1) HANS hne
          have hq : (x11 == y11) = false := beq_eq_false_iff_ne.2 hne
          clear hne
          go_wp2_with fail
          go_ret
          exact ⟨by rw [HF.out]; rfl, HR52.out.1⟩
         subst hne
         by_cases hne : x12 = y12
         rotate_left
         ·have HF := nf (fun X : TyMachine => X.2.2.2.2.2.2.2.2.2.2.2.2.1) HANS hne
          have hq : (x12 == y12) = false := beq_eq_false_iff_ne.2 hne
          clear hne
          go_wp2_with fail
          go_ret
          exact ⟨by rw [HF.out]; rfl, HR52.out.1⟩
         subst hne
         by_cases hne : x13 = y13
         rotate_left
         ·have HF := nf (fun X : TyMachine => X.2.2.2.2.2.2.2.2.2.2.2.2.2.1) HANS hne
          have hq : (x13 == y13) = false := beq_eq_false_iff_ne.2 hne
          clear hne
          go_wp2_with fail
          go_ret
          exact ⟨by rw [HF.out]; rfl, HR52.out.1⟩
         subst hne
         by_cases hne : x14 = y14
         rotate_left
         ·have HF := nf (fun X : TyMachine => X.2.2.2.2.2.2.2.2.2.2.2.2.2.2.1) HANS hne
          have hq : (x14 == y14) = false := beq_eq_false_iff_ne.2 hne
          clear hne
          go_wp2_with fail
          go_ret
          exact ⟨by rw [HF.out]; rfl, HR52.out.1⟩
         subst hne
         by_cases hne : x15 = y15
         rotate_left
         ·have HF := nf (fun X : TyMachine => X.2.2.2.2.2.2.2.2.2.2.2.2.2.2.2) HANS hne
          have hq : (x15.toList == y15.toList) = false := str_ne hne
          clear hne
          go_wp2_with fail
          go_ret
          exact ⟨by rw [HF.out]; rfl, HR52.out.1⟩
         subst hne
         have HT := Lib.hid (HANS.out.trans (same_t rfl))
         go_wp2_with fail
         go_ret
         exact ⟨by rw [HT.out]; rfl, HR52.out.1⟩
end Go.Proofs.YtgnmollbnopigaaGreat
