/- Comparisons, both sides. Printed by gen_same2.py. -/
import Derived.Test.YtgnmollbnopigaaGreatJoinSTAv
set_option maxHeartbeats 16000000
set_option maxRecDepth 100000
namespace Go.Proofs.YtgnmollbnopigaaGreat
open Go.RowKit
theorem sameLock_o : SmS shLock 142 := by
 intro X Y vs us lo hi lo' hi' w h h' hhi hhi' hf hf'
 obtain ⟨ANS, hANS⟩ : ∃ b, b = sameB X Y := ⟨_, rfl⟩
 rw [← hANS]
 obtain ⟨x0, x1, x2, x3⟩ := X
 obtain ⟨y0, y1, y2, y3⟩ := Y
 obtain ⟨ft0, ft1, ft2, ft3⟩ := hf
 obtain ⟨gt0, gt1, gt2, gt3⟩ := hf'
 have HANS := Lib.hid hANS; clear hANS
 obtain ⟨u0, ru0, eu0, k0, u1, ru1, eu1, k1, u2, ru2, eu2, k2, k3⟩ := h
 generalize ru2 = u3 at *
 obtain rfl := (show u0 = [.int .i64 x0] from k0)
 obtain rfl := (show u1 = [.int .i64 x1] from k1)
 obtain rfl := (show u2 = [.string x2] from k2)
 have qk3 := k3; obtain ⟨A3, c3, rfl, _⟩ := qk3
 have HG := Lib.hid (show ∀ (W : World) (b : Nat) (t : TypeId), Blk W b t vs.toArray → W.cell? ⟨b, 0, none⟩ = some (.int .i64 x0) ∧ W.cell? ⟨b, 1, none⟩ = some (.int .i64 x1) ∧ W.cell? ⟨b, 2, none⟩ = some (.string x2) ∧ W.cell? ⟨b, 3, none⟩ = some (.slice A3 x3.length c3) from fun W b t hB => by
  have q := blk_all hB
  obtain ⟨p0, q⟩ := rsp eu0 rfl q
  obtain ⟨p1, q⟩ := rsp eu1 rfl q
  obtain ⟨p2, q⟩ := rsp eu2 rfl q
  exact ⟨rng_one p0, rng_one p1, rng_one p2, rng_one q⟩)
 clear eu0 eu1 eu2
 obtain ⟨v0, rv0, ev0, l0, v1, rv1, ev1, l1, v2, rv2, ev2, l2, l3⟩ := h'
 generalize rv2 = v3 at *
 obtain rfl := (show v0 = [.int .i64 y0] from l0)
 obtain rfl := (show v1 = [.int .i64 y1] from l1)
 obtain rfl := (show v2 = [.string y2] from l2)
 have ql3 := l3; obtain ⟨B3, d3, rfl, _⟩ := ql3
 have HH := Lib.hid (show ∀ (W : World) (b : Nat) (t : TypeId), Blk W b t us.toArray → W.cell? ⟨b, 0, none⟩ = some (.int .i64 y0) ∧ W.cell? ⟨b, 1, none⟩ = some (.int .i64 y1) ∧ W.cell? ⟨b, 2, none⟩ = some (.string y2) ∧ W.cell? ⟨b, 3, none⟩ = some (.slice B3 y3.length d3) from fun W b t hB => by
  have q := blk_all hB
  obtain ⟨p0, q⟩ := rsp ev0 rfl q
  obtain ⟨p1, q⟩ := rsp ev1 rfl q
  obtain ⟨p2, q⟩ := rsp ev2 rfl q
  exact ⟨rng_one p0, rng_one p1, rng_one p2, rng_one q⟩)
 clear ev0 ev1 ev2
 have R0 := (((((Stand.nil w).ad (Sh.row 9 shS).R [.slice A3 x3.length c3] x3 hhi k3 (Sh.row 9 shS).R_keep).ad (Sh.row 9 shS).R [.slice B3 y3.length d3] y3 hhi' l3 (Sh.row 9 shS).R_keep).box 231 vs.toArray).box 231 us.toArray)
 rw [heap_alloc_size1] at R0
 have HR0 := Lib.hid R0
 clear R0 k3 l3
 go_enter Tryz.func142, Tryz.ntmps142
 have f0 := (HG.out _ _ _ (HR0.out.get 1 rfl)).1
 have g0 := (HH.out _ _ _ (HR0.out.get 0 rfl)).1
 have f1 := (HG.out _ _ _ (HR0.out.get 1 rfl)).2.1
 have g1 := (HH.out _ _ _ (HR0.out.get 0 rfl)).2.1
 have f2 := (HG.out _ _ _ (HR0.out.get 1 rfl)).2.2.1
 have g2 := (HH.out _ _ _ (HR0.out.get 0 rfl)).2.2.1
 have f3 := (HG.out _ _ _ (HR0.out.get 1 rfl)).2.2.2
 have g3 := (HH.out _ _ _ (HR0.out.get 0 rfl)).2.2.2
 by_cases hne : x0 = y0
 rotate_left
 ·have HF := nf (fun X : TyLock => X.1) HANS hne
  have hq : (x0 == y0) = false := beq_eq_false_iff_ne.2 hne
  clear hne
  go_wp2_with fail
  go_ret
  exact ⟨by rw [HF.out]; rfl, HR0.out.1⟩
 subst hne
 by_cases hne : x1 = y1
 rotate_left
 ·have HF := nf (fun X : TyLock => X.2.1) HANS hne
  have hq : (x1 == y1) = false := beq_eq_false_iff_ne.2 hne
  clear hne
  go_wp2_with fail
  go_ret
  exact ⟨by rw [HF.out]; rfl, HR0.out.1⟩
 subst hne
 by_cases hne : x2 = y2
 rotate_left
 ·have HF := nf (fun X : TyLock => X.2.2.1) HANS hne
  have hq : (x2.toList == y2.toList) = false := str_ne hne
  clear hne
  go_wp2_with fail
  go_ret
  exact ⟨by rw [HF.out]; rfl, HR0.out.1⟩
 subst hne
 go_wp2_with fail
 refine (eqlStr A3 B3 c3 d3 x3 y3 lo hi lo' hi' _ (HR0.out.get 3 rfl) (HR0.out.get 2 rfl) (HR0.out.le 3 rfl) (HR0.out.le 2 rfl) ft3.1 gt3.1).mono ?_
 rintro e3 w3 ⟨rfl, hb3⟩
 have HR1 := Lib.hid (HR0.out.below hb3)
 clear hb3 HR0  f0 g0 f1 g1 f2 g2 f3 g3
 by_cases hne : x3 = y3
 rotate_left
 ·rw [same_f hne]
  have HF := nf (fun X : TyLock => X.2.2.2) HANS hne
  clear hne
  go_wp2_with fail
  go_ret
  exact ⟨by rw [HF.out]; rfl, HR1.out.1⟩
 rw [same_t hne]
 subst hne
 have HT := Lib.hid (HANS.out.trans (same_t rfl))
 go_wp2_with fail
 go_ret
 exact ⟨by rw [HT.out]; rfl, HR1.out.1⟩
theorem sameAsk_o : SmS shAsk 144 := by
 intro X Y vs us lo hi lo' hi' w h h' hhi hhi' hf hf'
 obtain ⟨ANS, hANS⟩ : ∃ b, b = sameB X Y := ⟨_, rfl⟩
 rw [← hANS]
 obtain ⟨x0, x1, x2, x3⟩ := X
 obtain ⟨y0, y1, y2, y3⟩ := Y
 obtain ⟨ft0, ft1, ft2, ft3⟩ := hf
 obtain ⟨gt0, gt1, gt2, gt3⟩ := hf'
 have HANS := Lib.hid hANS; clear hANS
 obtain ⟨u0, ru0, eu0, k0, u1, ru1, eu1, k1, u2, ru2, eu2, k2, k3⟩ := h
 generalize ru2 = u3 at *
 obtain rfl := (show u0 = [.int .i64 x0] from k0)
 obtain rfl := (show u1 = [.int .i64 x1] from k1)
 obtain rfl := (show u2 = [.string x2] from k2)
 have qk3 := k3; obtain ⟨A3, c3, rfl, _⟩ := qk3
 have HG := Lib.hid (show ∀ (W : World) (b : Nat) (t : TypeId), Blk W b t vs.toArray → W.cell? ⟨b, 0, none⟩ = some (.int .i64 x0) ∧ W.cell? ⟨b, 1, none⟩ = some (.int .i64 x1) ∧ W.cell? ⟨b, 2, none⟩ = some (.string x2) ∧ W.cell? ⟨b, 3, none⟩ = some (.slice A3 x3.length c3) from fun W b t hB => by
  have q := blk_all hB
  obtain ⟨p0, q⟩ := rsp eu0 rfl q
  obtain ⟨p1, q⟩ := rsp eu1 rfl q
  obtain ⟨p2, q⟩ := rsp eu2 rfl q
  exact ⟨rng_one p0, rng_one p1, rng_one p2, rng_one q⟩)
 clear eu0 eu1 eu2
 obtain ⟨v0, rv0, ev0, l0, v1, rv1, ev1, l1, v2, rv2, ev2, l2, l3⟩ := h'
 generalize rv2 = v3 at *
 obtain rfl := (show v0 = [.int .i64 y0] from l0)
 obtain rfl := (show v1 = [.int .i64 y1] from l1)
 obtain rfl := (show v2 = [.string y2] from l2)
 have ql3 := l3; obtain ⟨B3, d3, rfl, _⟩ := ql3
 have HH := Lib.hid (show ∀ (W : World) (b : Nat) (t : TypeId), Blk W b t us.toArray → W.cell? ⟨b, 0, none⟩ = some (.int .i64 y0) ∧ W.cell? ⟨b, 1, none⟩ = some (.int .i64 y1) ∧ W.cell? ⟨b, 2, none⟩ = some (.string y2) ∧ W.cell? ⟨b, 3, none⟩ = some (.slice B3 y3.length d3) from fun W b t hB => by
  have q := blk_all hB
  obtain ⟨p0, q⟩ := rsp ev0 rfl q
  obtain ⟨p1, q⟩ := rsp ev1 rfl q
  obtain ⟨p2, q⟩ := rsp ev2 rfl q
  exact ⟨rng_one p0, rng_one p1, rng_one p2, rng_one q⟩)
 clear ev0 ev1 ev2
 have R0 := (((((Stand.nil w).ad (Sh.row 9 shS).R [.slice A3 x3.length c3] x3 hhi k3 (Sh.row 9 shS).R_keep).ad (Sh.row 9 shS).R [.slice B3 y3.length d3] y3 hhi' l3 (Sh.row 9 shS).R_keep).box 233 vs.toArray).box 233 us.toArray)
 rw [heap_alloc_size1] at R0
 have HR0 := Lib.hid R0
 clear R0 k3 l3
 go_enter Tryz.func144, Tryz.ntmps144
 have f0 := (HG.out _ _ _ (HR0.out.get 1 rfl)).1
 have g0 := (HH.out _ _ _ (HR0.out.get 0 rfl)).1
 have f1 := (HG.out _ _ _ (HR0.out.get 1 rfl)).2.1
 have g1 := (HH.out _ _ _ (HR0.out.get 0 rfl)).2.1
 have f2 := (HG.out _ _ _ (HR0.out.get 1 rfl)).2.2.1
 have g2 := (HH.out _ _ _ (HR0.out.get 0 rfl)).2.2.1
 have f3 := (HG.out _ _ _ (HR0.out.get 1 rfl)).2.2.2
 have g3 := (HH.out _ _ _ (HR0.out.get 0 rfl)).2.2.2
 by_cases hne : x0 = y0
 rotate_left
 ·have HF := nf (fun X : TyAsk => X.1) HANS hne
  have hq : (x0 == y0) = false := beq_eq_false_iff_ne.2 hne
  clear hne
  go_wp2_with fail
  go_ret
  exact ⟨by rw [HF.out]; rfl, HR0.out.1⟩
 subst hne
 by_cases hne : x1 = y1
 rotate_left
 ·have HF := nf (fun X : TyAsk => X.2.1) HANS hne
  have hq : (x1 == y1) = false := beq_eq_false_iff_ne.2 hne
  clear hne
  go_wp2_with fail
  go_ret
  exact ⟨by rw [HF.out]; rfl, HR0.out.1⟩
 subst hne
 by_cases hne : x2 = y2
 rotate_left
 ·have HF := nf (fun X : TyAsk => X.2.2.1) HANS hne
  have hq : (x2.toList == y2.toList) = false := str_ne hne
  clear hne
  go_wp2_with fail
  go_ret
  exact ⟨by rw [HF.out]; rfl, HR0.out.1⟩
 subst hne
 go_wp2_with fail
 refine (eqlStr A3 B3 c3 d3 x3 y3 lo hi lo' hi' _ (HR0.out.get 3 rfl) (HR0.out.get 2 rfl) (HR0.out.le 3 rfl) (HR0.out.le 2 rfl) ft3.1 gt3.1).mono ?_
 rintro e3 w3 ⟨rfl, hb3⟩
 have HR1 := Lib.hid (HR0.out.below hb3)
 clear hb3 HR0  f0 g0 f1 g1 f2 g2 f3 g3
 by_cases hne : x3 = y3
 rotate_left
 ·rw [same_f hne]
  have HF := nf (fun X : TyAsk => X.2.2.2) HANS hne
  clear hne
  go_wp2_with fail
  go_ret
  exact ⟨by rw [HF.out]; rfl, HR1.out.1⟩
 rw [same_t hne]
 subst hne
 have HT := Lib.hid (HANS.out.trans (same_t rfl))
 go_wp2_with fail
 go_ret
 exact ⟨by rw [HT.out]; rfl, HR1.out.1⟩
theorem sameEvent_o : SmS shEvent 155 := by
 intro X Y vs us lo hi lo' hi' w h h' hhi hhi' hf hf'
 obtain ⟨ANS, hANS⟩ : ∃ b, b = sameB X Y := ⟨_, rfl⟩
 rw [← hANS]
 obtain ⟨x0, x1, x2, x3, x4⟩ := X
 obtain ⟨y0, y1, y2, y3, y4⟩ := Y
 obtain ⟨ft0, ft1, ft2, ft3, ft4⟩ := hf
 obtain ⟨gt0, gt1, gt2, gt3, gt4⟩ := hf'
 have HANS := Lib.hid hANS; clear hANS
 obtain ⟨u0, ru0, eu0, k0, u1, ru1, eu1, k1, u2, ru2, eu2, k2, u3, ru3, eu3, k3, k4⟩ := h
 generalize ru3 = u4 at *
 obtain rfl := (show u0 = [.int .i64 x0] from k0)
 obtain rfl := (show u1 = [.string x1] from k1)
 have qk2 := k2; obtain ⟨A2, c2, rfl, _⟩ := qk2
 obtain rfl := (show u3 = [.string x3] from k3)
 obtain rfl := (show u4 = [.int .i64 x4] from k4)
 have HG := Lib.hid (show ∀ (W : World) (b : Nat) (t : TypeId), Blk W b t vs.toArray → W.cell? ⟨b, 0, none⟩ = some (.int .i64 x0) ∧ W.cell? ⟨b, 1, none⟩ = some (.string x1) ∧ W.cell? ⟨b, 2, none⟩ = some (.slice A2 x2.length c2) ∧ W.cell? ⟨b, 3, none⟩ = some (.string x3) ∧ W.cell? ⟨b, 4, none⟩ = some (.int .i64 x4) from fun W b t hB => by
  have q := blk_all hB
  obtain ⟨p0, q⟩ := rsp eu0 rfl q
  obtain ⟨p1, q⟩ := rsp eu1 rfl q
  obtain ⟨p2, q⟩ := rsp eu2 rfl q
  obtain ⟨p3, q⟩ := rsp eu3 rfl q
  exact ⟨rng_one p0, rng_one p1, rng_one p2, rng_one p3, rng_one q⟩)
 clear eu0 eu1 eu2 eu3
 obtain ⟨v0, rv0, ev0, l0, v1, rv1, ev1, l1, v2, rv2, ev2, l2, v3, rv3, ev3, l3, l4⟩ := h'
 generalize rv3 = v4 at *
 obtain rfl := (show v0 = [.int .i64 y0] from l0)
 obtain rfl := (show v1 = [.string y1] from l1)
 have ql2 := l2; obtain ⟨B2, d2, rfl, _⟩ := ql2
 obtain rfl := (show v3 = [.string y3] from l3)
 obtain rfl := (show v4 = [.int .i64 y4] from l4)
 have HH := Lib.hid (show ∀ (W : World) (b : Nat) (t : TypeId), Blk W b t us.toArray → W.cell? ⟨b, 0, none⟩ = some (.int .i64 y0) ∧ W.cell? ⟨b, 1, none⟩ = some (.string y1) ∧ W.cell? ⟨b, 2, none⟩ = some (.slice B2 y2.length d2) ∧ W.cell? ⟨b, 3, none⟩ = some (.string y3) ∧ W.cell? ⟨b, 4, none⟩ = some (.int .i64 y4) from fun W b t hB => by
  have q := blk_all hB
  obtain ⟨p0, q⟩ := rsp ev0 rfl q
  obtain ⟨p1, q⟩ := rsp ev1 rfl q
  obtain ⟨p2, q⟩ := rsp ev2 rfl q
  obtain ⟨p3, q⟩ := rsp ev3 rfl q
  exact ⟨rng_one p0, rng_one p1, rng_one p2, rng_one p3, rng_one q⟩)
 clear ev0 ev1 ev2 ev3
 have R0 := (((((Stand.nil w).ad (Sh.row 9 shS).R [.slice A2 x2.length c2] x2 hhi k2 (Sh.row 9 shS).R_keep).ad (Sh.row 9 shS).R [.slice B2 y2.length d2] y2 hhi' l2 (Sh.row 9 shS).R_keep).box 247 vs.toArray).box 247 us.toArray)
 rw [heap_alloc_size1] at R0
 have HR0 := Lib.hid R0
 clear R0 k2 l2
 go_enter Tryz.func155, Tryz.ntmps155
 have f0 := (HG.out _ _ _ (HR0.out.get 1 rfl)).1
 have g0 := (HH.out _ _ _ (HR0.out.get 0 rfl)).1
 have f1 := (HG.out _ _ _ (HR0.out.get 1 rfl)).2.1
 have g1 := (HH.out _ _ _ (HR0.out.get 0 rfl)).2.1
 have f2 := (HG.out _ _ _ (HR0.out.get 1 rfl)).2.2.1
 have g2 := (HH.out _ _ _ (HR0.out.get 0 rfl)).2.2.1
 by_cases hne : x0 = y0
 rotate_left
 ·have HF := nf (fun X : TyEvent => X.1) HANS hne
  have hq : (x0 == y0) = false := beq_eq_false_iff_ne.2 hne
  clear hne
  go_wp2_with fail
  go_ret
  exact ⟨by rw [HF.out]; rfl, HR0.out.1⟩
 subst hne
 by_cases hne : x1 = y1
 rotate_left
 ·have HF := nf (fun X : TyEvent => X.2.1) HANS hne
  have hq : (x1.toList == y1.toList) = false := str_ne hne
  clear hne
  go_wp2_with fail
  go_ret
  exact ⟨by rw [HF.out]; rfl, HR0.out.1⟩
 subst hne
 go_wp2_with fail
 refine (eqlStr A2 B2 c2 d2 x2 y2 lo hi lo' hi' _ (HR0.out.get 3 rfl) (HR0.out.get 2 rfl) (HR0.out.le 3 rfl) (HR0.out.le 2 rfl) ft2.1 gt2.1).mono ?_
 rintro e2 w2 ⟨rfl, hb2⟩
 have HR1 := Lib.hid (HR0.out.below hb2)
 clear hb2 HR0  f0 g0 f1 g1 f2 g2
 by_cases hne : x2 = y2
 rotate_left
 ·rw [same_f hne]
  have HF := nf (fun X : TyEvent => X.2.2.1) HANS hne
  clear hne
  go_wp2_with fail
  go_ret
  exact ⟨by rw [HF.out]; rfl, HR1.out.1⟩
 rw [same_t hne]
 subst hne
 have f3 := (HG.out _ _ _ (HR1.out.get 1 rfl)).2.2.2.1
 have g3 := (HH.out _ _ _ (HR1.out.get 0 rfl)).2.2.2.1
 have f4 := (HG.out _ _ _ (HR1.out.get 1 rfl)).2.2.2.2
 have g4 := (HH.out _ _ _ (HR1.out.get 0 rfl)).2.2.2.2
 by_cases hne : x3 = y3
 rotate_left
 ·have HF := nf (fun X : TyEvent => X.2.2.2.1) HANS hne
  have hq : (x3.toList == y3.toList) = false := str_ne hne
  clear hne
  go_wp2_with fail
  go_ret
  exact ⟨by rw [HF.out]; rfl, HR1.out.1⟩
 subst hne
 by_cases hne : x4 = y4
 rotate_left
 ·have HF := nf (fun X : TyEvent => X.2.2.2.2) HANS hne
  have hq : (x4 == y4) = false := beq_eq_false_iff_ne.2 hne
  clear hne
  go_wp2_with fail
  go_ret
  exact ⟨by rw [HF.out]; rfl, HR1.out.1⟩
 subst hne
 have HT := Lib.hid (HANS.out.trans (same_t rfl))
 go_wp2_with fail
 go_ret
 exact ⟨by rw [HT.out]; rfl, HR1.out.1⟩
theorem sameTrigger_o : SmS shTrigger 140 := by
 intro X Y vs us lo hi lo' hi' w h h' hhi hhi' hf hf'
 obtain ⟨ANS, hANS⟩ : ∃ b, b = sameB X Y := ⟨_, rfl⟩
 rw [← hANS]
 obtain ⟨x0, x1, x2, x3, x4, x5, x6⟩ := X
 obtain ⟨y0, y1, y2, y3, y4, y5, y6⟩ := Y
 obtain ⟨ft0, ft1, ft2, ft3, ft4, ft5, ft6⟩ := hf
 obtain ⟨gt0, gt1, gt2, gt3, gt4, gt5, gt6⟩ := hf'
 have HANS := Lib.hid hANS; clear hANS
 obtain ⟨u0, ru0, eu0, k0, u1, ru1, eu1, k1, u2, ru2, eu2, k2, u3, ru3, eu3, k3, u4, ru4, eu4, k4, u5, ru5, eu5, k5, k6⟩ := h
 generalize ru5 = u6 at *
 obtain rfl := (show u0 = [.int .i64 x0] from k0)
 obtain rfl := (show u1 = [.string x1] from k1)
 have qk2 := k2; obtain ⟨A2, c2, rfl, _⟩ := qk2
 obtain rfl := (show u3 = [.bool x3] from k3)
 obtain rfl := (show u4 = [.bool x4] from k4)
 obtain rfl := (show u5 = [.string x5] from k5)
 obtain rfl := (show u6 = [.string x6] from k6)
 have HG := Lib.hid (show ∀ (W : World) (b : Nat) (t : TypeId), Blk W b t vs.toArray → W.cell? ⟨b, 0, none⟩ = some (.int .i64 x0) ∧ W.cell? ⟨b, 1, none⟩ = some (.string x1) ∧ W.cell? ⟨b, 2, none⟩ = some (.slice A2 x2.length c2) ∧ W.cell? ⟨b, 3, none⟩ = some (.bool x3) ∧ W.cell? ⟨b, 4, none⟩ = some (.bool x4) ∧ W.cell? ⟨b, 5, none⟩ = some (.string x5) ∧ W.cell? ⟨b, 6, none⟩ = some (.string x6) from fun W b t hB => by
  have q := blk_all hB
  obtain ⟨p0, q⟩ := rsp eu0 rfl q
  obtain ⟨p1, q⟩ := rsp eu1 rfl q
  obtain ⟨p2, q⟩ := rsp eu2 rfl q
  obtain ⟨p3, q⟩ := rsp eu3 rfl q
  obtain ⟨p4, q⟩ := rsp eu4 rfl q
  obtain ⟨p5, q⟩ := rsp eu5 rfl q
  exact ⟨rng_one p0, rng_one p1, rng_one p2, rng_one p3, rng_one p4, rng_one p5, rng_one q⟩)
 clear eu0 eu1 eu2 eu3 eu4 eu5
 obtain ⟨v0, rv0, ev0, l0, v1, rv1, ev1, l1, v2, rv2, ev2, l2, v3, rv3, ev3, l3, v4, rv4, ev4, l4, v5, rv5, ev5, l5, l6⟩ := h'
 generalize rv5 = v6 at *
 obtain rfl := (show v0 = [.int .i64 y0] from l0)
 obtain rfl := (show v1 = [.string y1] from l1)
 have ql2 := l2; obtain ⟨B2, d2, rfl, _⟩ := ql2
 obtain rfl := (show v3 = [.bool y3] from l3)
 obtain rfl := (show v4 = [.bool y4] from l4)
 obtain rfl := (show v5 = [.string y5] from l5)
 obtain rfl := (show v6 = [.string y6] from l6)
 have HH := Lib.hid (show ∀ (W : World) (b : Nat) (t : TypeId), Blk W b t us.toArray → W.cell? ⟨b, 0, none⟩ = some (.int .i64 y0) ∧ W.cell? ⟨b, 1, none⟩ = some (.string y1) ∧ W.cell? ⟨b, 2, none⟩ = some (.slice B2 y2.length d2) ∧ W.cell? ⟨b, 3, none⟩ = some (.bool y3) ∧ W.cell? ⟨b, 4, none⟩ = some (.bool y4) ∧ W.cell? ⟨b, 5, none⟩ = some (.string y5) ∧ W.cell? ⟨b, 6, none⟩ = some (.string y6) from fun W b t hB => by
  have q := blk_all hB
  obtain ⟨p0, q⟩ := rsp ev0 rfl q
  obtain ⟨p1, q⟩ := rsp ev1 rfl q
  obtain ⟨p2, q⟩ := rsp ev2 rfl q
  obtain ⟨p3, q⟩ := rsp ev3 rfl q
  obtain ⟨p4, q⟩ := rsp ev4 rfl q
  obtain ⟨p5, q⟩ := rsp ev5 rfl q
  exact ⟨rng_one p0, rng_one p1, rng_one p2, rng_one p3, rng_one p4, rng_one p5, rng_one q⟩)
 clear ev0 ev1 ev2 ev3 ev4 ev5
 have R0 := (((((Stand.nil w).ad (Sh.row 9 shS).R [.slice A2 x2.length c2] x2 hhi k2 (Sh.row 9 shS).R_keep).ad (Sh.row 9 shS).R [.slice B2 y2.length d2] y2 hhi' l2 (Sh.row 9 shS).R_keep).box 229 vs.toArray).box 229 us.toArray)
 rw [heap_alloc_size1] at R0
 have HR0 := Lib.hid R0
 clear R0 k2 l2
 go_enter Tryz.func140, Tryz.ntmps140
 (try dsimp only [List.append])
 have f0 := (HG.out _ _ _ (HR0.out.get 1 rfl)).1
 have g0 := (HH.out _ _ _ (HR0.out.get 0 rfl)).1
 have f1 := (HG.out _ _ _ (HR0.out.get 1 rfl)).2.1
 have g1 := (HH.out _ _ _ (HR0.out.get 0 rfl)).2.1
 have f2 := (HG.out _ _ _ (HR0.out.get 1 rfl)).2.2.1
 have g2 := (HH.out _ _ _ (HR0.out.get 0 rfl)).2.2.1
 by_cases hne : x0 = y0
 rotate_left
 ·have HF := nf (fun X : TyTrigger => X.1) HANS hne
  have hq : (x0 == y0) = false := beq_eq_false_iff_ne.2 hne
  clear hne
  go_wp2_with fail
  go_ret
  exact ⟨by rw [HF.out]; rfl, HR0.out.1⟩
 subst hne
 by_cases hne : x1 = y1
 rotate_left
 ·have HF := nf (fun X : TyTrigger => X.2.1) HANS hne
  have hq : (x1.toList == y1.toList) = false := str_ne hne
  clear hne
  go_wp2_with fail
  go_ret
  exact ⟨by rw [HF.out]; rfl, HR0.out.1⟩
 subst hne
 go_wp2_with fail
 refine (eqlStr A2 B2 c2 d2 x2 y2 lo hi lo' hi' _ (HR0.out.get 3 rfl) (HR0.out.get 2 rfl) (HR0.out.le 3 rfl) (HR0.out.le 2 rfl) ft2.1 gt2.1).mono ?_
 rintro e2 w2 ⟨rfl, hb2⟩
 have HR1 := Lib.hid (HR0.out.below hb2)
 clear hb2 HR0  f0 g0 f1 g1 f2 g2
 by_cases hne : x2 = y2
 rotate_left
 ·rw [same_f hne]
  have HF := nf (fun X : TyTrigger => X.2.2.1) HANS hne
  clear hne
  go_wp2_with fail
  go_ret
  exact ⟨by rw [HF.out]; rfl, HR1.out.1⟩
 rw [same_t hne]
 subst hne
 have f3 := (HG.out _ _ _ (HR1.out.get 1 rfl)).2.2.2.1
 have g3 := (HH.out _ _ _ (HR1.out.get 0 rfl)).2.2.2.1
 have f4 := (HG.out _ _ _ (HR1.out.get 1 rfl)).2.2.2.2.1
 have g4 := (HH.out _ _ _ (HR1.out.get 0 rfl)).2.2.2.2.1
 have f5 := (HG.out _ _ _ (HR1.out.get 1 rfl)).2.2.2.2.2.1
 have g5 := (HH.out _ _ _ (HR1.out.get 0 rfl)).2.2.2.2.2.1
 have f6 := (HG.out _ _ _ (HR1.out.get 1 rfl)).2.2.2.2.2.2
 have g6 := (HH.out _ _ _ (HR1.out.get 0 rfl)).2.2.2.2.2.2
 by_cases hne : x3 = y3
 rotate_left
 ·have HF := nf (fun X : TyTrigger => X.2.2.2.1) HANS hne
  have hq : (x3 == y3) = false := beq_eq_false_iff_ne.2 hne
  have hq2 := hq; (try simp only [beq_eq_false_iff_ne, ne_eq] at hq2)
  clear hne
  go_wp2_with fail
  go_ret
  exact ⟨by rw [HF.out]; rfl, HR1.out.1⟩
 subst hne
 by_cases hne : x4 = y4
 rotate_left
 ·have HF := nf (fun X : TyTrigger => X.2.2.2.2.1) HANS hne
  have hq : (x4 == y4) = false := beq_eq_false_iff_ne.2 hne
  have hq2 := hq; (try simp only [beq_eq_false_iff_ne, ne_eq] at hq2)
  clear hne
  go_wp2_with fail
  go_ret
  exact ⟨by rw [HF.out]; rfl, HR1.out.1⟩
 subst hne
 by_cases hne : x5 = y5
 rotate_left
 ·have HF := nf (fun X : TyTrigger => X.2.2.2.2.2.1) HANS hne
  have hq : (x5.toList == y5.toList) = false := str_ne hne
  clear hne
  go_wp2_with fail
  go_ret
  exact ⟨by rw [HF.out]; rfl, HR1.out.1⟩
 subst hne
 by_cases hne : x6 = y6
 rotate_left
 ·have HF := nf (fun X : TyTrigger => X.2.2.2.2.2.2) HANS hne
  have hq : (x6.toList == y6.toList) = false := str_ne hne
  clear hne
  go_wp2_with fail
  go_ret
  exact ⟨by rw [HF.out]; rfl, HR1.out.1⟩
 subst hne
 have HT := Lib.hid (HANS.out.trans (same_t rfl))
 go_wp2_with fail
 go_ret
 exact ⟨by rw [HT.out]; rfl, HR1.out.1⟩
theorem sameEntry_o : SmS shEntry 138 := by
 intro X Y vs us lo hi lo' hi' w h h' hhi hhi' hf hf'
 obtain ⟨ANS, hANS⟩ : ∃ b, b = sameB X Y := ⟨_, rfl⟩
 rw [← hANS]
 obtain ⟨x0, x1, x2, x3⟩ := X
 obtain ⟨y0, y1, y2, y3⟩ := Y
 obtain ⟨ft0, ft1, ft2, ft3⟩ := hf
 obtain ⟨gt0, gt1, gt2, gt3⟩ := hf'
 have HANS := Lib.hid hANS; clear hANS
 obtain ⟨u0, ru0, eu0, k0, u1, ru1, eu1, k1, u2, ru2, eu2, k2, k3⟩ := h
 generalize ru2 = u3 at *
 obtain rfl := (show u0 = [.string x0] from k0)
 obtain rfl := (show u1 = [.string x1] from k1)
 obtain rfl := (show u2 = [.int .i64 x2] from k2)
 have qk3 := k3; obtain ⟨A3, c3, rfl, _⟩ := qk3
 have HG := Lib.hid (show ∀ (W : World) (b : Nat) (t : TypeId), Blk W b t vs.toArray → W.cell? ⟨b, 0, none⟩ = some (.string x0) ∧ W.cell? ⟨b, 1, none⟩ = some (.string x1) ∧ W.cell? ⟨b, 2, none⟩ = some (.int .i64 x2) ∧ W.cell? ⟨b, 3, none⟩ = some (.slice A3 x3.length c3) from fun W b t hB => by
  have q := blk_all hB
  obtain ⟨p0, q⟩ := rsp eu0 rfl q
  obtain ⟨p1, q⟩ := rsp eu1 rfl q
  obtain ⟨p2, q⟩ := rsp eu2 rfl q
  exact ⟨rng_one p0, rng_one p1, rng_one p2, rng_one q⟩)
 clear eu0 eu1 eu2
 obtain ⟨v0, rv0, ev0, l0, v1, rv1, ev1, l1, v2, rv2, ev2, l2, l3⟩ := h'
 generalize rv2 = v3 at *
 obtain rfl := (show v0 = [.string y0] from l0)
 obtain rfl := (show v1 = [.string y1] from l1)
 obtain rfl := (show v2 = [.int .i64 y2] from l2)
 have ql3 := l3; obtain ⟨B3, d3, rfl, _⟩ := ql3
 have HH := Lib.hid (show ∀ (W : World) (b : Nat) (t : TypeId), Blk W b t us.toArray → W.cell? ⟨b, 0, none⟩ = some (.string y0) ∧ W.cell? ⟨b, 1, none⟩ = some (.string y1) ∧ W.cell? ⟨b, 2, none⟩ = some (.int .i64 y2) ∧ W.cell? ⟨b, 3, none⟩ = some (.slice B3 y3.length d3) from fun W b t hB => by
  have q := blk_all hB
  obtain ⟨p0, q⟩ := rsp ev0 rfl q
  obtain ⟨p1, q⟩ := rsp ev1 rfl q
  obtain ⟨p2, q⟩ := rsp ev2 rfl q
  exact ⟨rng_one p0, rng_one p1, rng_one p2, rng_one q⟩)
 clear ev0 ev1 ev2
 have R0 := (((((Stand.nil w).ad (Sh.row 9 shS).R [.slice A3 x3.length c3] x3 hhi k3 (Sh.row 9 shS).R_keep).ad (Sh.row 9 shS).R [.slice B3 y3.length d3] y3 hhi' l3 (Sh.row 9 shS).R_keep).box 228 vs.toArray).box 228 us.toArray)
 rw [heap_alloc_size1] at R0
 have HR0 := Lib.hid R0
 clear R0 k3 l3
 go_enter Tryz.func138, Tryz.ntmps138
 have f0 := (HG.out _ _ _ (HR0.out.get 1 rfl)).1
 have g0 := (HH.out _ _ _ (HR0.out.get 0 rfl)).1
 have f1 := (HG.out _ _ _ (HR0.out.get 1 rfl)).2.1
 have g1 := (HH.out _ _ _ (HR0.out.get 0 rfl)).2.1
 have f2 := (HG.out _ _ _ (HR0.out.get 1 rfl)).2.2.1
 have g2 := (HH.out _ _ _ (HR0.out.get 0 rfl)).2.2.1
 have f3 := (HG.out _ _ _ (HR0.out.get 1 rfl)).2.2.2
 have g3 := (HH.out _ _ _ (HR0.out.get 0 rfl)).2.2.2
 by_cases hne : x0 = y0
 rotate_left
 ·have HF := nf (fun X : TyEntry => X.1) HANS hne
  have hq : (x0.toList == y0.toList) = false := str_ne hne
  clear hne
  go_wp2_with fail
  go_ret
  exact ⟨by rw [HF.out]; rfl, HR0.out.1⟩
 subst hne
 by_cases hne : x1 = y1
 rotate_left
 ·have HF := nf (fun X : TyEntry => X.2.1) HANS hne
  have hq : (x1.toList == y1.toList) = false := str_ne hne
  clear hne
  go_wp2_with fail
  go_ret
  exact ⟨by rw [HF.out]; rfl, HR0.out.1⟩
 subst hne
 by_cases hne : x2 = y2
 rotate_left
 ·have HF := nf (fun X : TyEntry => X.2.2.1) HANS hne
  have hq : (x2 == y2) = false := beq_eq_false_iff_ne.2 hne
  clear hne
  go_wp2_with fail
  go_ret
  exact ⟨by rw [HF.out]; rfl, HR0.out.1⟩
 subst hne
 go_wp2_with fail
 refine (eqlStr A3 B3 c3 d3 x3 y3 lo hi lo' hi' _ (HR0.out.get 3 rfl) (HR0.out.get 2 rfl) (HR0.out.le 3 rfl) (HR0.out.le 2 rfl) ft3.1 gt3.1).mono ?_
 rintro e3 w3 ⟨rfl, hb3⟩
 have HR1 := Lib.hid (HR0.out.below hb3)
 clear hb3 HR0  f0 g0 f1 g1 f2 g2 f3 g3
 by_cases hne : x3 = y3
 rotate_left
 ·rw [same_f hne]
  have HF := nf (fun X : TyEntry => X.2.2.2) HANS hne
  clear hne
  go_wp2_with fail
  go_ret
  exact ⟨by rw [HF.out]; rfl, HR1.out.1⟩
 rw [same_t hne]
 subst hne
 have HT := Lib.hid (HANS.out.trans (same_t rfl))
 go_wp2_with fail
 go_ret
 exact ⟨by rw [HT.out]; rfl, HR1.out.1⟩
theorem sameRef_o : SmS shRef 196 := by
 intro X Y vs us lo hi lo' hi' w h h' hhi hhi' hf hf'
 obtain ⟨ANS, hANS⟩ : ∃ b, b = sameB X Y := ⟨_, rfl⟩
 rw [← hANS]
 obtain ⟨x0, x1, x2⟩ := X
 obtain ⟨y0, y1, y2⟩ := Y
 obtain ⟨ft0, ft1, ft2⟩ := hf
 obtain ⟨gt0, gt1, gt2⟩ := hf'
 have HANS := Lib.hid hANS; clear hANS
 obtain ⟨u0, ru0, eu0, k0, u1, ru1, eu1, k1, k2⟩ := h
 generalize ru1 = u2 at *
 obtain rfl := (show u0 = [.bool x0] from k0)
 obtain rfl := (show u1 = [.string x1] from k1)
 have qk2 := k2; obtain ⟨A2, c2, rfl, _⟩ := qk2
 have HG := Lib.hid (show ∀ (W : World) (b : Nat) (t : TypeId), Blk W b t vs.toArray → W.cell? ⟨b, 0, none⟩ = some (.bool x0) ∧ W.cell? ⟨b, 1, none⟩ = some (.string x1) ∧ W.cell? ⟨b, 2, none⟩ = some (.slice A2 x2.length c2) from fun W b t hB => by
  have q := blk_all hB
  obtain ⟨p0, q⟩ := rsp eu0 rfl q
  obtain ⟨p1, q⟩ := rsp eu1 rfl q
  exact ⟨rng_one p0, rng_one p1, rng_one q⟩)
 clear eu0 eu1
 obtain ⟨v0, rv0, ev0, l0, v1, rv1, ev1, l1, l2⟩ := h'
 generalize rv1 = v2 at *
 obtain rfl := (show v0 = [.bool y0] from l0)
 obtain rfl := (show v1 = [.string y1] from l1)
 have ql2 := l2; obtain ⟨B2, d2, rfl, _⟩ := ql2
 have HH := Lib.hid (show ∀ (W : World) (b : Nat) (t : TypeId), Blk W b t us.toArray → W.cell? ⟨b, 0, none⟩ = some (.bool y0) ∧ W.cell? ⟨b, 1, none⟩ = some (.string y1) ∧ W.cell? ⟨b, 2, none⟩ = some (.slice B2 y2.length d2) from fun W b t hB => by
  have q := blk_all hB
  obtain ⟨p0, q⟩ := rsp ev0 rfl q
  obtain ⟨p1, q⟩ := rsp ev1 rfl q
  exact ⟨rng_one p0, rng_one p1, rng_one q⟩)
 clear ev0 ev1
 have R0 := (((((Stand.nil w).ad (Sh.row 9 shS).R [.slice A2 x2.length c2] x2 hhi k2 (Sh.row 9 shS).R_keep).ad (Sh.row 9 shS).R [.slice B2 y2.length d2] y2 hhi' l2 (Sh.row 9 shS).R_keep).box 152 vs.toArray).box 152 us.toArray)
 rw [heap_alloc_size1] at R0
 have HR0 := Lib.hid R0
 clear R0 k2 l2
 go_enter Tryz.func196, Tryz.ntmps196
 have f0 := (HG.out _ _ _ (HR0.out.get 1 rfl)).1
 have g0 := (HH.out _ _ _ (HR0.out.get 0 rfl)).1
 have f1 := (HG.out _ _ _ (HR0.out.get 1 rfl)).2.1
 have g1 := (HH.out _ _ _ (HR0.out.get 0 rfl)).2.1
 have f2 := (HG.out _ _ _ (HR0.out.get 1 rfl)).2.2
 have g2 := (HH.out _ _ _ (HR0.out.get 0 rfl)).2.2
 by_cases hne : x0 = y0
 rotate_left
 ·have HF := nf (fun X : TyRef => X.1) HANS hne
  have hq : (x0 == y0) = false := beq_eq_false_iff_ne.2 hne
  have hq2 := hq; (try simp only [beq_eq_false_iff_ne, ne_eq] at hq2)
  clear hne
  go_wp2_with fail
  go_ret
  exact ⟨by rw [HF.out]; rfl, HR0.out.1⟩
 subst hne
 by_cases hne : x1 = y1
 rotate_left
 ·have HF := nf (fun X : TyRef => X.2.1) HANS hne
  have hq : (x1.toList == y1.toList) = false := str_ne hne
  clear hne
  go_wp2_with fail
  go_ret
  exact ⟨by rw [HF.out]; rfl, HR0.out.1⟩
 subst hne
 go_wp2_with fail
 refine (eqlStr A2 B2 c2 d2 x2 y2 lo hi lo' hi' _ (HR0.out.get 3 rfl) (HR0.out.get 2 rfl) (HR0.out.le 3 rfl) (HR0.out.le 2 rfl) ft2.1 gt2.1).mono ?_
 rintro e2 w2 ⟨rfl, hb2⟩
 have HR1 := Lib.hid (HR0.out.below hb2)
 clear hb2 HR0  f0 g0 f1 g1 f2 g2
 by_cases hne : x2 = y2
 rotate_left
 ·rw [same_f hne]
  have HF := nf (fun X : TyRef => X.2.2) HANS hne
  clear hne
  go_wp2_with fail
  go_ret
  exact ⟨by rw [HF.out]; rfl, HR1.out.1⟩
 rw [same_t hne]
 subst hne
 have HT := Lib.hid (HANS.out.trans (same_t rfl))
 go_wp2_with fail
 go_ret
 exact ⟨by rw [HT.out]; rfl, HR1.out.1⟩
end Go.Proofs.YtgnmollbnopigaaGreat
