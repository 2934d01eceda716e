/- Comparisons, both sides. Printed by gen_same2.py. -/
import Derived.Test.YtgnmollbnopigaaGreatJoinSSAw
set_option maxHeartbeats 16000000
set_option maxRecDepth 100000
namespace Go.Proofs.YtgnmollbnopigaaGreat
open Go.RowKit
theorem l24Starts_e (A B : Option Addr) (c d : Nat) (xs ys : List ByteArray) (lo hi lo' hi' : Nat) (w : World) (h : (Sh.row 9 shS).R w lo hi [.slice A xs.length c] xs) (h' : (Sh.row 9 shS).R w lo' hi' [.slice B ys.length d] ys) (hhi : hi ≤ w.heap.size) (hhi' : hi' ≤ w.heap.size) (hn : xs.length ≤ 4294967296) (_hm : ys.length ≤ 4294967296) (hl : xs.length = ys.length) :
  Calls Tryz.prog 183 #[.slice A xs.length c, .slice B ys.length d] w fun e w' => e = .returned (.bool (sameB xs ys)) ∧ Below w.heap.size w w' := by
 ·have HA := Lib.hid h; have HA' := Lib.hid h'; have HL := Lib.hid hl
  rw [← hl] at HA' ⊢
  clear h h' _hm hl
  go_enter Tryz.func183, Tryz.ntmps183
  go_wp2_with fail
  go_loopw [5] (fun i wr => ∃ k : Nat, k ≤ xs.length ∧ i = .int .i64 k ∧ Hid (xs.take k = ys.take k) ∧ Below w.heap.size w wr) (fun i _ => xs.length - (intOf i).toNat)
  case atStart => exact ⟨0, Nat.zero_le _, rfl, Lib.hid rfl, Below.refl _ _⟩
  case round =>
   obtain ⟨k, hk, rfl, htk, hb⟩ := hrel
   by_cases hlt : k < xs.length
   ·obtain ⟨b, off, rfl, hb1, hb2, us, hc, hX⟩ := row_at ((Sh.row 9 shS).R_below HA.out hb hhi) hlt
    obtain ⟨b', off', rfl, hb1', hb2', us', hc', hX'⟩ := row_at ((Sh.row 9 shS).R_below HA'.out hb hhi') hlt
    have HST := Lib.hid (fun he => take_step (d := shS.d) htk.out hlt HL.out he)
    have HNE := Lib.hid (fun he => ne_at (xs := xs) (ys := ys) (d := shS.d) (k := k) he)
    obtain rfl := (show us = [.string (xs.getD k shS.d)] from hX)
    obtain rfl := (show us' = [.string (ys.getD k shS.d)] from hX')
    have e1 := rng_one (rng_of hc); have e2 := rng_one (rng_of hc')
    simp only [show shS.k = 1 from rfl, Nat.mul_one] at e1 e2
    have HD := Lib.hid hb.drew
    clear hc hc' hX hX' htk
    generalize xs.getD k shS.d = X at *
    generalize ys.getD k shS.d = Y at *
    go_upto_region 6 with fail
    refine AnyT.region (fun _ => false) (fun W => W.cell? ⟨b, off + k, none⟩ = some (.string X) ∧ W.cell? ⟨b', off' + k, none⟩ = some (.string Y)) (by kernel_rfl) ⟨e1, e2⟩ (fun hHeld => ?_)
    generalize wr.drew = w4 at *
    clear e1 e2
    (refine AnyT.ta 0 17 ?_; simp only [Act.put, za, zb, zc])
    (refine AnyT.ta 1 18 ?_; simp only [Act.put, za, zb, zc])
    (refine AnyT.ta 2 19 ?_; simp only [Act.put, za, zb, zc])
    (refine AnyT.tk 3 20 ?_; simp only [Act.put, za, zb, zc])
    (refine AnyT.ta 4 21 ?_; simp only [Act.put, za, zb, zc])
    (refine AnyT.ta 5 22 ?_; simp only [Act.put, za, zb, zc])
    (refine AnyT.ta 6 23 ?_; simp only [Act.put, za, zb, zc])
    (refine AnyT.tk 7 24 ?_; simp only [Act.put, za, zb, zc])
    (refine AnyT.ta 8 25 ?_; simp only [Act.put, za, zb, zc])
    refine AnyT.done (by kernel_rfl) ?_ _
    clear hHeld
    by_cases hxy : X = Y
    ·subst hxy
     have hq : (!X.toList == X.toList) = false := by simp
     (try rw [hq])
     go_wp2_with fail
     go_roundw
     case rel => exact ⟨k + 1, by omega, by go_num, Lib.hid (HST.out rfl), HD.out⟩
     case measure => simp [intOf]; omega
    ·have hne := str_ne hxy
     have hne2 : (!X.toList == Y.toList) = true := by rw [hne]; rfl
     have HF := Lib.hid (same_f (HNE.out hxy))
     clear hxy HST HNE
     (try rw [hne2])
     go_wp2_with fail
     go_ret
     exact ⟨by rw [HF.out]; rfl, HD.out⟩
   ·obtain rfl : k = xs.length := by omega
    have HB := Lib.hid hb; have HT := Lib.hid (same_t (take_all htk.out HL.out)); clear hb htk
    go_wp2_with fail
    go_ret
    exact ⟨by rw [HT.out]; rfl, HB.out⟩
theorem l24Texts_r (A B : Option Addr) (c d : Nat) (xs ys : List ByteArray) (lo hi lo' hi' : Nat) (w : World) (h : (Sh.row 9 shS).R w lo hi [.slice A xs.length c] xs) (h' : (Sh.row 9 shS).R w lo' hi' [.slice B ys.length d] ys) (hhi : hi ≤ w.heap.size) (hhi' : hi' ≤ w.heap.size) (hn : xs.length ≤ 4294967296) (hm : ys.length ≤ 4294967296) :
  Calls Tryz.prog 114 #[.slice A xs.length c, .slice B ys.length d] w fun e w' => e = .returned (.bool (sameB xs ys)) ∧ Below w.heap.size w w' := by
 by_cases hl : xs.length = ys.length
 ·have HC := Lib.hid (l24Starts_e A B c d xs ys lo hi lo' hi' w h h' hhi hhi' hn hm hl)
  generalize sameB xs ys = ANS at *
  rw [← hl] at HC ⊢
  clear h h' hn hm hl
  go_enter Tryz.func114, Tryz.ntmps114
  go_wp2_with fail
  refine HC.out.mono ?_
  rintro e1 w1 ⟨rfl, hb1⟩
  have HB := Lib.hid hb1; clear hb1 HC
  go_wp2_with fail
  go_ret
  exact ⟨rfl, HB.out⟩
 ·have hf := Lib.hid (same_f (ne_of_len hl))
  have n1 : ((xs.length : Int) == (ys.length : Int)) = false := by rw [beq_eq_false_iff_ne]; omega
  clear hl h h'
  go_enter Tryz.func114, Tryz.ntmps114
  go_wp2_with fail
  go_ret
  exact ⟨by rw [hf.out]; rfl, Below.refl _ _⟩
theorem l25SameEvent_o : SmS shEvent 122 := by
 intro X Y vs us lo hi lo' hi' w h h' hhi hhi' hf hf'
 obtain ⟨ANS, hANS⟩ : ∃ b, b = sameB X Y := ⟨_, rfl⟩
 rw [← hANS]
 obtain ⟨x0, x1, x2, x3, x4⟩ := X
 obtain ⟨y0, y1, y2, y3, y4⟩ := Y
 obtain ⟨ft0, ft1, ft2, ft3, ft4⟩ := hf
 obtain ⟨gt0, gt1, gt2, gt3, gt4⟩ := hf'
 have HANS := Lib.hid hANS; clear hANS
 obtain ⟨u0, ru0, eu0, k0, u1, ru1, eu1, k1, u2, ru2, eu2, k2, u3, ru3, eu3, k3, k4⟩ := h
 generalize ru3 = u4 at *
 obtain rfl := (show u0 = [.int .i64 x0] from k0)
 obtain rfl := (show u1 = [.string x1] from k1)
 have qk2 := k2; obtain ⟨A2, c2, rfl, _⟩ := qk2
 obtain rfl := (show u3 = [.string x3] from k3)
 obtain rfl := (show u4 = [.int .i64 x4] from k4)
 have HG := Lib.hid (show ∀ (W : World) (b : Nat) (t : TypeId), Blk W b t vs.toArray → W.cell? ⟨b, 0, none⟩ = some (.int .i64 x0) ∧ W.cell? ⟨b, 1, none⟩ = some (.string x1) ∧ W.cell? ⟨b, 2, none⟩ = some (.slice A2 x2.length c2) ∧ W.cell? ⟨b, 3, none⟩ = some (.string x3) ∧ W.cell? ⟨b, 4, none⟩ = some (.int .i64 x4) from fun W b t hB => by
  have q := blk_all hB
  obtain ⟨p0, q⟩ := rsp eu0 rfl q
  obtain ⟨p1, q⟩ := rsp eu1 rfl q
  obtain ⟨p2, q⟩ := rsp eu2 rfl q
  obtain ⟨p3, q⟩ := rsp eu3 rfl q
  exact ⟨rng_one p0, rng_one p1, rng_one p2, rng_one p3, rng_one q⟩)
 clear eu0 eu1 eu2 eu3
 obtain ⟨v0, rv0, ev0, l0, v1, rv1, ev1, l1, v2, rv2, ev2, l2, v3, rv3, ev3, l3, l4⟩ := h'
 generalize rv3 = v4 at *
 obtain rfl := (show v0 = [.int .i64 y0] from l0)
 obtain rfl := (show v1 = [.string y1] from l1)
 have ql2 := l2; obtain ⟨B2, d2, rfl, _⟩ := ql2
 obtain rfl := (show v3 = [.string y3] from l3)
 obtain rfl := (show v4 = [.int .i64 y4] from l4)
 have HH := Lib.hid (show ∀ (W : World) (b : Nat) (t : TypeId), Blk W b t us.toArray → W.cell? ⟨b, 0, none⟩ = some (.int .i64 y0) ∧ W.cell? ⟨b, 1, none⟩ = some (.string y1) ∧ W.cell? ⟨b, 2, none⟩ = some (.slice B2 y2.length d2) ∧ W.cell? ⟨b, 3, none⟩ = some (.string y3) ∧ W.cell? ⟨b, 4, none⟩ = some (.int .i64 y4) from fun W b t hB => by
  have q := blk_all hB
  obtain ⟨p0, q⟩ := rsp ev0 rfl q
  obtain ⟨p1, q⟩ := rsp ev1 rfl q
  obtain ⟨p2, q⟩ := rsp ev2 rfl q
  obtain ⟨p3, q⟩ := rsp ev3 rfl q
  exact ⟨rng_one p0, rng_one p1, rng_one p2, rng_one p3, rng_one q⟩)
 clear ev0 ev1 ev2 ev3
 have R0 := (((((Stand.nil w).ad (Sh.row 9 shS).R [.slice A2 x2.length c2] x2 hhi k2 (Sh.row 9 shS).R_keep).ad (Sh.row 9 shS).R [.slice B2 y2.length d2] y2 hhi' l2 (Sh.row 9 shS).R_keep).box 247 vs.toArray).box 247 us.toArray)
 rw [heap_alloc_size1] at R0
 have HR0 := Lib.hid R0
 clear R0 k2 l2
 go_enter Tryz.func122, Tryz.ntmps122
 have f0 := (HG.out _ _ _ (HR0.out.get 1 rfl)).1
 have g0 := (HH.out _ _ _ (HR0.out.get 0 rfl)).1
 have f1 := (HG.out _ _ _ (HR0.out.get 1 rfl)).2.1
 have g1 := (HH.out _ _ _ (HR0.out.get 0 rfl)).2.1
 have f2 := (HG.out _ _ _ (HR0.out.get 1 rfl)).2.2.1
 have g2 := (HH.out _ _ _ (HR0.out.get 0 rfl)).2.2.1
 by_cases hne : x0 = y0
 rotate_left
 ·have HF := nf (fun X : TyEvent => X.1) HANS hne
  have hq : (x0 == y0) = false := beq_eq_false_iff_ne.2 hne
  clear hne
  go_wp2_with fail
  go_ret
  exact ⟨by rw [HF.out]; rfl, HR0.out.1⟩
 subst hne
 by_cases hne : x1 = y1
 rotate_left
 ·have HF := nf (fun X : TyEvent => X.2.1) HANS hne
  have hq : (x1.toList == y1.toList) = false := str_ne hne
  clear hne
  go_wp2_with fail
  go_ret
  exact ⟨by rw [HF.out]; rfl, HR0.out.1⟩
 subst hne
 go_wp2_with fail
 refine (l24Texts_r A2 B2 c2 d2 x2 y2 lo hi lo' hi' _ (HR0.out.get 3 rfl) (HR0.out.get 2 rfl) (HR0.out.le 3 rfl) (HR0.out.le 2 rfl) ft2.1 gt2.1).mono ?_
 rintro e2 w2 ⟨rfl, hb2⟩
 have HR1 := Lib.hid (HR0.out.below hb2)
 clear hb2 HR0  f0 g0 f1 g1 f2 g2
 by_cases hne : x2 = y2
 rotate_left
 ·rw [same_f hne]
  have HF := nf (fun X : TyEvent => X.2.2.1) HANS hne
  clear hne
  go_wp2_with fail
  go_ret
  exact ⟨by rw [HF.out]; rfl, HR1.out.1⟩
 rw [same_t hne]
 subst hne
 have f3 := (HG.out _ _ _ (HR1.out.get 1 rfl)).2.2.2.1
 have g3 := (HH.out _ _ _ (HR1.out.get 0 rfl)).2.2.2.1
 have f4 := (HG.out _ _ _ (HR1.out.get 1 rfl)).2.2.2.2
 have g4 := (HH.out _ _ _ (HR1.out.get 0 rfl)).2.2.2.2
 by_cases hne : x3 = y3
 rotate_left
 ·have HF := nf (fun X : TyEvent => X.2.2.2.1) HANS hne
  have hq : (x3.toList == y3.toList) = false := str_ne hne
  clear hne
  go_wp2_with fail
  go_ret
  exact ⟨by rw [HF.out]; rfl, HR1.out.1⟩
 subst hne
 by_cases hne : x4 = y4
 rotate_left
 ·have HF := nf (fun X : TyEvent => X.2.2.2.2) HANS hne
  have hq : (x4 == y4) = false := beq_eq_false_iff_ne.2 hne
  clear hne
  go_wp2_with fail
  go_ret
  exact ⟨by rw [HF.out]; rfl, HR1.out.1⟩
 subst hne
 have HT := Lib.hid (HANS.out.trans (same_t rfl))
 go_wp2_with fail
 go_ret
 exact ⟨by rw [HT.out]; rfl, HR1.out.1⟩
theorem l14SameRef_o : SmS shRef 223 := by
 intro X Y vs us lo hi lo' hi' w h h' hhi hhi' hf hf'
 obtain ⟨ANS, hANS⟩ : ∃ b, b = sameB X Y := ⟨_, rfl⟩
 rw [← hANS]
 obtain ⟨x0, x1, x2⟩ := X
 obtain ⟨y0, y1, y2⟩ := Y
 obtain ⟨ft0, ft1, ft2⟩ := hf
 obtain ⟨gt0, gt1, gt2⟩ := hf'
 have HANS := Lib.hid hANS; clear hANS
 obtain ⟨u0, ru0, eu0, k0, u1, ru1, eu1, k1, k2⟩ := h
 generalize ru1 = u2 at *
 obtain rfl := (show u0 = [.bool x0] from k0)
 obtain rfl := (show u1 = [.string x1] from k1)
 have qk2 := k2; obtain ⟨A2, c2, rfl, _⟩ := qk2
 have HG := Lib.hid (show ∀ (W : World) (b : Nat) (t : TypeId), Blk W b t vs.toArray → W.cell? ⟨b, 0, none⟩ = some (.bool x0) ∧ W.cell? ⟨b, 1, none⟩ = some (.string x1) ∧ W.cell? ⟨b, 2, none⟩ = some (.slice A2 x2.length c2) from fun W b t hB => by
  have q := blk_all hB
  obtain ⟨p0, q⟩ := rsp eu0 rfl q
  obtain ⟨p1, q⟩ := rsp eu1 rfl q
  exact ⟨rng_one p0, rng_one p1, rng_one q⟩)
 clear eu0 eu1
 obtain ⟨v0, rv0, ev0, l0, v1, rv1, ev1, l1, l2⟩ := h'
 generalize rv1 = v2 at *
 obtain rfl := (show v0 = [.bool y0] from l0)
 obtain rfl := (show v1 = [.string y1] from l1)
 have ql2 := l2; obtain ⟨B2, d2, rfl, _⟩ := ql2
 have HH := Lib.hid (show ∀ (W : World) (b : Nat) (t : TypeId), Blk W b t us.toArray → W.cell? ⟨b, 0, none⟩ = some (.bool y0) ∧ W.cell? ⟨b, 1, none⟩ = some (.string y1) ∧ W.cell? ⟨b, 2, none⟩ = some (.slice B2 y2.length d2) from fun W b t hB => by
  have q := blk_all hB
  obtain ⟨p0, q⟩ := rsp ev0 rfl q
  obtain ⟨p1, q⟩ := rsp ev1 rfl q
  exact ⟨rng_one p0, rng_one p1, rng_one q⟩)
 clear ev0 ev1
 have R0 := (((((Stand.nil w).ad (Sh.row 9 shS).R [.slice A2 x2.length c2] x2 hhi k2 (Sh.row 9 shS).R_keep).ad (Sh.row 9 shS).R [.slice B2 y2.length d2] y2 hhi' l2 (Sh.row 9 shS).R_keep).box 152 vs.toArray).box 152 us.toArray)
 rw [heap_alloc_size1] at R0
 have HR0 := Lib.hid R0
 clear R0 k2 l2
 go_enter Tryz.func223, Tryz.ntmps223
 have f0 := (HG.out _ _ _ (HR0.out.get 1 rfl)).1
 have g0 := (HH.out _ _ _ (HR0.out.get 0 rfl)).1
 have f1 := (HG.out _ _ _ (HR0.out.get 1 rfl)).2.1
 have g1 := (HH.out _ _ _ (HR0.out.get 0 rfl)).2.1
 have f2 := (HG.out _ _ _ (HR0.out.get 1 rfl)).2.2
 have g2 := (HH.out _ _ _ (HR0.out.get 0 rfl)).2.2
 by_cases hne : x0 = y0
 rotate_left
 ·have HF := nf (fun X : TyRef => X.1) HANS hne
  have hq : (x0 == y0) = false := beq_eq_false_iff_ne.2 hne
  have hq2 := hq; (try simp only [beq_eq_false_iff_ne, ne_eq] at hq2)
  clear hne
  go_wp2_with fail
  go_ret
  exact ⟨by rw [HF.out]; rfl, HR0.out.1⟩
 subst hne
 by_cases hne : x1 = y1
 rotate_left
 ·have HF := nf (fun X : TyRef => X.2.1) HANS hne
  have hq : (x1.toList == y1.toList) = false := str_ne hne
  clear hne
  go_wp2_with fail
  go_ret
  exact ⟨by rw [HF.out]; rfl, HR0.out.1⟩
 subst hne
 go_wp2_with fail
 refine (l02Same_r A2 B2 c2 d2 x2 y2 lo hi lo' hi' _ (HR0.out.get 3 rfl) (HR0.out.get 2 rfl) (HR0.out.le 3 rfl) (HR0.out.le 2 rfl) ft2.1 gt2.1).mono ?_
 rintro e2 w2 ⟨rfl, hb2⟩
 have HR1 := Lib.hid (HR0.out.below hb2)
 clear hb2 HR0  f0 g0 f1 g1 f2 g2
 by_cases hne : x2 = y2
 rotate_left
 ·rw [same_f hne]
  have HF := nf (fun X : TyRef => X.2.2) HANS hne
  clear hne
  go_wp2_with fail
  go_ret
  exact ⟨by rw [HF.out]; rfl, HR1.out.1⟩
 rw [same_t hne]
 subst hne
 have HT := Lib.hid (HANS.out.trans (same_t rfl))
 go_wp2_with fail
 go_ret
 exact ⟨by rw [HT.out]; rfl, HR1.out.1⟩
theorem sSamePage_o : SmS shPage 117 := by
 intro X Y vs us lo hi lo' hi' w h h' hhi hhi' hf hf'
 obtain ⟨ANS, hANS⟩ : ∃ b, b = sameB X Y := ⟨_, rfl⟩
 rw [← hANS]
 obtain ⟨x0, x1, x2, x3⟩ := X
 obtain ⟨y0, y1, y2, y3⟩ := Y
 obtain ⟨ft0, ft1, ft2, ft3⟩ := hf
 obtain ⟨gt0, gt1, gt2, gt3⟩ := hf'
 have HANS := Lib.hid hANS; clear hANS
 obtain ⟨u0, ru0, eu0, k0, u1, ru1, eu1, k1, u2, ru2, eu2, k2, k3⟩ := h
 generalize ru2 = u3 at *
 obtain rfl := (show u0 = [.bool x0] from k0)
 have qk1 := k1; obtain ⟨A1, c1, rfl, _⟩ := qk1
 have qk2 := k2; obtain ⟨A2, c2, rfl, _⟩ := qk2
 have qk3 := k3; obtain ⟨A3, c3, rfl, _⟩ := qk3
 have HG := Lib.hid (show ∀ (W : World) (b : Nat) (t : TypeId), Blk W b t vs.toArray → W.cell? ⟨b, 0, none⟩ = some (.bool x0) ∧ W.cell? ⟨b, 1, none⟩ = some (.slice A1 x1.length c1) ∧ W.cell? ⟨b, 2, none⟩ = some (.slice A2 x2.length c2) ∧ W.cell? ⟨b, 3, none⟩ = some (.slice A3 x3.length c3) from fun W b t hB => by
  have q := blk_all hB
  obtain ⟨p0, q⟩ := rsp eu0 rfl q
  obtain ⟨p1, q⟩ := rsp eu1 rfl q
  obtain ⟨p2, q⟩ := rsp eu2 rfl q
  exact ⟨rng_one p0, rng_one p1, rng_one p2, rng_one q⟩)
 clear eu0 eu1 eu2
 obtain ⟨v0, rv0, ev0, l0, v1, rv1, ev1, l1, v2, rv2, ev2, l2, l3⟩ := h'
 generalize rv2 = v3 at *
 obtain rfl := (show v0 = [.bool y0] from l0)
 have ql1 := l1; obtain ⟨B1, d1, rfl, _⟩ := ql1
 have ql2 := l2; obtain ⟨B2, d2, rfl, _⟩ := ql2
 have ql3 := l3; obtain ⟨B3, d3, rfl, _⟩ := ql3
 have HH := Lib.hid (show ∀ (W : World) (b : Nat) (t : TypeId), Blk W b t us.toArray → W.cell? ⟨b, 0, none⟩ = some (.bool y0) ∧ W.cell? ⟨b, 1, none⟩ = some (.slice B1 y1.length d1) ∧ W.cell? ⟨b, 2, none⟩ = some (.slice B2 y2.length d2) ∧ W.cell? ⟨b, 3, none⟩ = some (.slice B3 y3.length d3) from fun W b t hB => by
  have q := blk_all hB
  obtain ⟨p0, q⟩ := rsp ev0 rfl q
  obtain ⟨p1, q⟩ := rsp ev1 rfl q
  obtain ⟨p2, q⟩ := rsp ev2 rfl q
  exact ⟨rng_one p0, rng_one p1, rng_one p2, rng_one q⟩)
 clear ev0 ev1 ev2
 have R0 := (((((((((Stand.nil w).ad (Sh.row 9 shS).R [.slice A1 x1.length c1] x1 hhi k1 (Sh.row 9 shS).R_keep).ad (Sh.row 9 shS).R [.slice A2 x2.length c2] x2 hhi k2 (Sh.row 9 shS).R_keep).ad (Sh.row 2 shI).R [.slice A3 x3.length c3] x3 hhi k3 (Sh.row 2 shI).R_keep).ad (Sh.row 9 shS).R [.slice B1 y1.length d1] y1 hhi' l1 (Sh.row 9 shS).R_keep).ad (Sh.row 9 shS).R [.slice B2 y2.length d2] y2 hhi' l2 (Sh.row 9 shS).R_keep).ad (Sh.row 2 shI).R [.slice B3 y3.length d3] y3 hhi' l3 (Sh.row 2 shI).R_keep).box 237 vs.toArray).box 237 us.toArray)
 rw [heap_alloc_size1] at R0
 have HR0 := Lib.hid R0
 clear R0 k1 l1 k2 l2 k3 l3
 go_enter Tryz.func117, Tryz.ntmps117
 have f0 := (HG.out _ _ _ (HR0.out.get 1 rfl)).1
 have g0 := (HH.out _ _ _ (HR0.out.get 0 rfl)).1
 have f1 := (HG.out _ _ _ (HR0.out.get 1 rfl)).2.1
 have g1 := (HH.out _ _ _ (HR0.out.get 0 rfl)).2.1
 by_cases hne : x0 = y0
 rotate_left
 ·have HF := nf (fun X : TyPage => X.1) HANS hne
  have hq : (x0 == y0) = false := beq_eq_false_iff_ne.2 hne
  have hq2 := hq; (try simp only [beq_eq_false_iff_ne, ne_eq] at hq2)
  clear hne
  go_wp2_with fail
  go_ret
  exact ⟨by rw [HF.out]; rfl, HR0.out.1⟩
 subst hne
 go_wp2_with fail
 refine (sameSubs_r A1 B1 c1 d1 x1 y1 lo hi lo' hi' _ (HR0.out.get 7 rfl) (HR0.out.get 4 rfl) (HR0.out.le 7 rfl) (HR0.out.le 4 rfl) ft1.1 gt1.1).mono ?_
 rintro e1 w1 ⟨rfl, hb1⟩
 have HR1 := Lib.hid (HR0.out.below hb1)
 clear hb1 HR0  f0 g0 f1 g1
 by_cases hne : x1 = y1
 rotate_left
 ·rw [same_f hne]
  have HF := nf (fun X : TyPage => X.2.1) HANS hne
  clear hne
  go_wp2_with fail
  go_ret
  exact ⟨by rw [HF.out]; rfl, HR1.out.1⟩
 rw [same_t hne]
 subst hne
 have f2 := (HG.out _ _ _ (HR1.out.get 1 rfl)).2.2.1
 have g2 := (HH.out _ _ _ (HR1.out.get 0 rfl)).2.2.1
 go_wp2_with fail
 refine (sameSubs_r A2 B2 c2 d2 x2 y2 lo hi lo' hi' _ (HR1.out.get 6 rfl) (HR1.out.get 3 rfl) (HR1.out.le 6 rfl) (HR1.out.le 3 rfl) ft2.1 gt2.1).mono ?_
 rintro e2 w2 ⟨rfl, hb2⟩
 have HR2 := Lib.hid (HR1.out.below hb2)
 clear hb2 HR1  f2 g2
 by_cases hne : x2 = y2
 rotate_left
 ·rw [same_f hne]
  have HF := nf (fun X : TyPage => X.2.2.1) HANS hne
  clear hne
  go_wp2_with fail
  go_ret
  exact ⟨by rw [HF.out]; rfl, HR2.out.1⟩
 rw [same_t hne]
 subst hne
 have f3 := (HG.out _ _ _ (HR2.out.get 1 rfl)).2.2.2
 have g3 := (HH.out _ _ _ (HR2.out.get 0 rfl)).2.2.2
 go_wp2_with fail
 refine (l00Same_r A3 B3 c3 d3 x3 y3 lo hi lo' hi' _ (HR2.out.get 5 rfl) (HR2.out.get 2 rfl) (HR2.out.le 5 rfl) (HR2.out.le 2 rfl) ft3.1 gt3.1).mono ?_
 rintro e3 w3 ⟨rfl, hb3⟩
 have HR3 := Lib.hid (HR2.out.below hb3)
 clear hb3 HR2  f3 g3
 by_cases hne : x3 = y3
 rotate_left
 ·rw [same_f hne]
  have HF := nf (fun X : TyPage => X.2.2.2) HANS hne
  clear hne
  go_wp2_with fail
  go_ret
  exact ⟨by rw [HF.out]; rfl, HR3.out.1⟩
 rw [same_t hne]
 subst hne
 have HT := Lib.hid (HANS.out.trans (same_t rfl))
 go_wp2_with fail
 go_ret
 exact ⟨by rw [HT.out]; rfl, HR3.out.1⟩
end Go.Proofs.YtgnmollbnopigaaGreat
