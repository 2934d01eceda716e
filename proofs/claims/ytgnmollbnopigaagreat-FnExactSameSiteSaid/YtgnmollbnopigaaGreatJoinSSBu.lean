/- Comparisons, both sides. Printed by gen_same2.py. -/
import Derived.Test.YtgnmollbnopigaaGreatJoinSSBt
import Derived.Test.YtgnmollbnopigaaGreatJoinSSBj
import Derived.Test.YtgnmollbnopigaaGreatJoinSSBb
set_option maxHeartbeats 16000000
set_option maxRecDepth 100000
namespace Go.Proofs.YtgnmollbnopigaaGreat
open Go.RowKit
theorem iSameSite_o : SmS shSite 8 := by
 intro X Y vs us lo hi lo' hi' w h h' hhi hhi' hf hf'
 obtain ⟨ANS, hANS⟩ : ∃ b, b = sameB X Y := ⟨_, rfl⟩
 rw [← hANS]
 obtain ⟨X0, X1, X2, x3, x4⟩ := X
 obtain ⟨Y0, Y1, Y2, y3, y4⟩ := Y
 obtain ⟨ft0, ft1, ft2, ft3, ft4⟩ := hf
 obtain ⟨gt0, gt1, gt2, gt3, gt4⟩ := hf'
 have HANS := Lib.hid hANS; clear hANS
 obtain ⟨u0, ru0, eu0, k0, u1, ru1, eu1, k1, u2, ru2, eu2, k2, u3, ru3, eu3, k3, k4⟩ := h
 generalize ru3 = u4 at *
 obtain rfl := (show u3 = [.int .i64 x3] from k3)
 have qk4 := k4; obtain ⟨A4, c4, rfl, _⟩ := qk4
 have HG := Lib.hid (show ∀ (W : World) (b : Nat) (t : TypeId), Blk W b t vs.toArray → W.rangeAt b 0 u0 ∧ W.rangeAt b 10 u1 ∧ W.rangeAt b 34 u2 ∧ W.cell? ⟨b, 35, none⟩ = some (.int .i64 x3) ∧ W.cell? ⟨b, 36, none⟩ = some (.slice A4 x4.length c4) from fun W b t hB => by
  have q := blk_all hB
  obtain ⟨p0, q⟩ := rsp eu0 (shWorld.R_len k0) q
  obtain ⟨p1, q⟩ := rsp eu1 (shBase.R_len k1) q
  obtain ⟨p2, q⟩ := rsp eu2 (shTree.R_len k2) q
  obtain ⟨p3, q⟩ := rsp eu3 rfl q
  exact ⟨p0, p1, p2, rng_one p3, rng_one q⟩)
 clear eu0 eu1 eu2 eu3
 obtain ⟨v0, rv0, ev0, l0, v1, rv1, ev1, l1, v2, rv2, ev2, l2, v3, rv3, ev3, l3, l4⟩ := h'
 generalize rv3 = v4 at *
 obtain rfl := (show v3 = [.int .i64 y3] from l3)
 have ql4 := l4; obtain ⟨B4, d4, rfl, _⟩ := ql4
 have HH := Lib.hid (show ∀ (W : World) (b : Nat) (t : TypeId), Blk W b t us.toArray → W.rangeAt b 0 v0 ∧ W.rangeAt b 10 v1 ∧ W.rangeAt b 34 v2 ∧ W.cell? ⟨b, 35, none⟩ = some (.int .i64 y3) ∧ W.cell? ⟨b, 36, none⟩ = some (.slice B4 y4.length d4) from fun W b t hB => by
  have q := blk_all hB
  obtain ⟨p0, q⟩ := rsp ev0 (shWorld.R_len l0) q
  obtain ⟨p1, q⟩ := rsp ev1 (shBase.R_len l1) q
  obtain ⟨p2, q⟩ := rsp ev2 (shTree.R_len l2) q
  obtain ⟨p3, q⟩ := rsp ev3 rfl q
  exact ⟨p0, p1, p2, rng_one p3, rng_one q⟩)
 clear ev0 ev1 ev2 ev3
 have R0 := (((((((((((Stand.nil w).ad shWorld.R u0 X0 hhi k0 shWorld.R_keep).ad shBase.R u1 X1 hhi k1 shBase.R_keep).ad shTree.R u2 X2 hhi k2 shTree.R_keep).ad (Sh.row 167 shBatch).R [.slice A4 x4.length c4] x4 hhi k4 (Sh.row 167 shBatch).R_keep).ad shWorld.R v0 Y0 hhi' l0 shWorld.R_keep).ad shBase.R v1 Y1 hhi' l1 shBase.R_keep).ad shTree.R v2 Y2 hhi' l2 shTree.R_keep).ad (Sh.row 167 shBatch).R [.slice B4 y4.length d4] y4 hhi' l4 (Sh.row 167 shBatch).R_keep).box 91 vs.toArray).box 91 us.toArray)
 rw [heap_alloc_size1] at R0
 have HR0 := Lib.hid R0
 have HZ0 := slH sizeIWorld k0
 have HY0 := slH sizeIWorld l0
 have HZ1 := slH sizeIBase k1
 have HY1 := slH sizeIBase l1
 have HZ2 := slH sizeITree k2
 have HY2 := slH sizeITree l2
 clear R0 k0 l0 k1 l1 k2 l2 k4 l4
 go_enter Tryz.func8, Tryz.ntmps8
 go_wp2_with (first | fail | (refine wlg w.heap.size 0 u0 (HG.out _ _ _ (HR0.out.get 1 rfl)).1 Tryz.underlying74 HZ0.out ?_) | (refine wlg (w.heap.size + 1) 0 v0 (HH.out _ _ _ (HR0.out.get 0 rfl)).1 Tryz.underlying74 HY0.out ?_))
 refine (iSameWorld_o X0 Y0 u0 v0 lo hi lo' hi' _ (HR0.out.get 9 rfl) (HR0.out.get 5 rfl) (HR0.out.le 9 rfl) (HR0.out.le 5 rfl) ft0 gt0).mono ?_
 rintro e0 w0 ⟨rfl, hb0⟩
 have HR1 := Lib.hid (HR0.out.below hb0)
 clear hb0 HR0  
 by_cases hne : X0 = Y0
 rotate_left
 ·rw [same_f hne]
  have HF := nf (fun X : TySite => X.1) HANS hne
  clear hne
  go_wp2_with fail
  go_ret
  exact ⟨by rw [HF.out]; rfl, HR1.out.1⟩
 rw [same_t hne]
 subst hne
 go_wp2_with (first | fail | (refine wlg w.heap.size 10 u1 (HG.out _ _ _ (HR1.out.get 1 rfl)).2.1 Tryz.underlying89 HZ1.out ?_) | (refine wlg (w.heap.size + 1) 10 v1 (HH.out _ _ _ (HR1.out.get 0 rfl)).2.1 Tryz.underlying89 HY1.out ?_))
 refine (iSameBase_o X1 Y1 u1 v1 lo hi lo' hi' _ (HR1.out.get 8 rfl) (HR1.out.get 4 rfl) (HR1.out.le 8 rfl) (HR1.out.le 4 rfl) ft1 gt1).mono ?_
 rintro e1 w1 ⟨rfl, hb1⟩
 have HR2 := Lib.hid (HR1.out.below hb1)
 clear hb1 HR1  
 by_cases hne : X1 = Y1
 rotate_left
 ·rw [same_f hne]
  have HF := nf (fun X : TySite => X.2.1) HANS hne
  clear hne
  go_wp2_with fail
  go_ret
  exact ⟨by rw [HF.out]; rfl, HR2.out.1⟩
 rw [same_t hne]
 subst hne
 go_wp2_with (first | fail | (refine wlg w.heap.size 34 u2 (HG.out _ _ _ (HR2.out.get 1 rfl)).2.2.1 Tryz.underlying66 HZ2.out ?_) | (refine wlg (w.heap.size + 1) 34 v2 (HH.out _ _ _ (HR2.out.get 0 rfl)).2.2.1 Tryz.underlying66 HY2.out ?_))
 refine (iSameTree_o X2 Y2 u2 v2 lo hi lo' hi' _ (HR2.out.get 7 rfl) (HR2.out.get 3 rfl) (HR2.out.le 7 rfl) (HR2.out.le 3 rfl) ft2 gt2).mono ?_
 rintro e2 w2 ⟨rfl, hb2⟩
 have HR3 := Lib.hid (HR2.out.below hb2)
 clear hb2 HR2  
 by_cases hne : X2 = Y2
 rotate_left
 ·rw [same_f hne]
  have HF := nf (fun X : TySite => X.2.2.1) HANS hne
  clear hne
  go_wp2_with fail
  go_ret
  exact ⟨by rw [HF.out]; rfl, HR3.out.1⟩
 rw [same_t hne]
 subst hne
 have f3 := (HG.out _ _ _ (HR3.out.get 1 rfl)).2.2.2.1
 have g3 := (HH.out _ _ _ (HR3.out.get 0 rfl)).2.2.2.1
 have f4 := (HG.out _ _ _ (HR3.out.get 1 rfl)).2.2.2.2
 have g4 := (HH.out _ _ _ (HR3.out.get 0 rfl)).2.2.2.2
 by_cases hne : x3 = y3
 rotate_left
 ·have HF := nf (fun X : TySite => X.2.2.2.1) HANS hne
  have hq : (x3 == y3) = false := beq_eq_false_iff_ne.2 hne
  clear hne
  go_wp2_with fail
  go_ret
  exact ⟨by rw [HF.out]; rfl, HR3.out.1⟩
 subst hne
 go_wp2_with fail
 refine (iSameBatches A4 B4 c4 d4 x4 y4 lo hi lo' hi' _ (HR3.out.get 6 rfl) (HR3.out.get 2 rfl) (HR3.out.le 6 rfl) (HR3.out.le 2 rfl) ft4 gt4).mono ?_
 rintro e4 w4 ⟨rfl, hb4⟩
 have HR4 := Lib.hid (HR3.out.below hb4)
 clear hb4 HR3  f3 g3 f4 g4
 by_cases hne : x4 = y4
 rotate_left
 ·rw [same_f hne]
  have HF := nf (fun X : TySite => X.2.2.2.2) HANS hne
  clear hne
  go_wp2_with fail
  go_ret
  exact ⟨by rw [HF.out]; rfl, HR4.out.1⟩
 rw [same_t hne]
 subst hne
 have HT := Lib.hid (HANS.out.trans (same_t rfl))
 go_wp2_with fail
 go_ret
 exact ⟨by rw [HT.out]; rfl, HR4.out.1⟩
end Go.Proofs.YtgnmollbnopigaaGreat
/- Comparisons, both sides. Printed by gen_same2.py. -/
namespace Go.Proofs.YtgnmollbnopigaaGreat
open Go.RowKit
theorem l09SameBinds_r (A B : Option Addr) (c d : Nat) (xs ys : List TyBind) (lo hi lo' hi' : Nat) (w : World) (h : (Sh.row 359 shBind).R w lo hi [.slice A xs.length c] xs) (h' : (Sh.row 359 shBind).R w lo' hi' [.slice B ys.length d] ys) (hhi : hi ≤ w.heap.size) (hhi' : hi' ≤ w.heap.size) (hn : xs.length ≤ 4294967296) (_hm : ys.length ≤ 4294967296) :
  Calls Tryz.prog 255 #[.slice A xs.length c, .slice B ys.length d] w fun e w' => e = .returned (.bool (sameB xs ys)) ∧ Below w.heap.size w w' := by
 obtain ⟨ANS, hANS⟩ : ∃ b, b = sameB xs ys := ⟨_, rfl⟩
 rw [← hANS]
 have HANS := Lib.hid hANS; clear hANS
 by_cases hl : xs.length = ys.length
 ·have HA := Lib.hid h; have HA' := Lib.hid h'; have HL := Lib.hid hl
  rw [← hl] at HA' ⊢
  clear h h' _hm hl
  go_enter Tryz.func255, Tryz.ntmps255
  go_wp2_with fail
  go_loopw [5] (fun i wr => ∃ k : Nat, k ≤ xs.length ∧ i = .int .i64 k ∧ Hid (xs.take k = ys.take k) ∧ Below w.heap.size w wr) (fun i _ => xs.length - (intOf i).toNat)
  case atStart => exact ⟨0, Nat.zero_le _, rfl, Lib.hid rfl, Below.refl _ _⟩
  case round =>
   obtain ⟨k, hk, rfl, htk, hb⟩ := hrel
   by_cases hlt : k < xs.length
   ·obtain ⟨b, off, rfl, hb1, hb2, us, hc, hX⟩ := row_at ((Sh.row 359 shBind).R_below HA.out hb hhi) hlt
    obtain ⟨b', off', rfl, hb1', hb2', us', hc', hX'⟩ := row_at ((Sh.row 359 shBind).R_below HA'.out hb hhi') hlt
    have HST := Lib.hid (fun he => take_step (d := shBind.d) htk.out hlt HL.out he)
    have HNE := Lib.hid (fun he => ne_at (xs := xs) (ys := ys) (d := shBind.d) (k := k) he)
    generalize xs.getD k shBind.d = X at *
    generalize ys.getD k shBind.d = Y at *
    obtain ⟨x0, x1⟩ := X
    obtain ⟨y0, y1⟩ := Y
    obtain rfl : us = [.string x0, .int .i64 x1] := shBind_R.1 hX
    obtain rfl : us' = [.string y0, .int .i64 y1] := shBind_R.1 hX'
    have HC := Lib.hid (show wr.drew.rangeAt b (off + k * 2) [.string x0, .int .i64 x1] from rng_of hc); have HC' := Lib.hid (show wr.drew.rangeAt b' (off' + k * 2) [.string y0, .int .i64 y1] from rng_of hc')
    have HZ := slH sizeIBind hX; have HZ' := slH sizeIBind hX'
    have HD := Lib.hid hb.drew
    clear hc hc' hX hX' htk
    go_upto_region 6 with fail
    refine AnyT.region (fun _ => false) (fun W => W.rangeAt b (off + k * 2) [.string x0, .int .i64 x1] ∧ W.rangeAt b' (off' + k * 2) [.string y0, .int .i64 y1]) (by kernel_rfl) ⟨HC.out, HC'.out⟩ (fun hHeld => ?_)
    generalize wr.drew = w4 at *
    clear HC HC'
    (refine AnyT.ta 0 17 ?_; simp only [Act.put, za, zb, zc])
    (refine AnyT.ta 1 18 ?_; simp only [Act.put, za, zb, zc])
    (refine AnyT.ta 2 19 ?_; simp only [Act.put, za, zb, zc])
    refine AnyT.tx 3 20 (.agg ([.string x0, .int .i64 x1] : List Value).toArray) (fun W hS => exec_loadMid _ _ rfl b (off + k * 2) rfl _ hS.1 Tryz.underlying359 rfl HZ.out) ?_
    simp only [Act.put, za, zb, zc]
    (refine AnyT.ta 4 21 ?_; simp only [Act.put, za, zb, zc])
    (refine AnyT.ta 5 22 ?_; simp only [Act.put, za, zb, zc])
    (refine AnyT.ta 6 23 ?_; simp only [Act.put, za, zb, zc])
    refine AnyT.tx 7 24 (.agg ([.string y0, .int .i64 y1] : List Value).toArray) (fun W hS => exec_loadMid _ _ rfl b' (off' + k * 2) rfl _ hS.2 Tryz.underlying359 rfl HZ'.out) ?_
    simp only [Act.put, za, zb, zc]
    refine AnyT.takeAny 8 25 (.bool (!sameB (x0, x1) (y0, y1))) rfl (by kernel_rfl) (by kernel_rfl) (by kernel_rfl) rfl rfl (fun _ _ _ _ h => h) rfl (fun W => exec_neq rfl rfl rfl (by kernel_rfl) (fun w => equalBind _ _ _ _ w)) (by assumption) ?_
    simp only [Act.put, za, zb, zc]
    refine AnyT.done (by kernel_rfl) ?_ _
    clear hHeld
    by_cases hxy : (x0, x1) = (y0, y1)
    ·have HS2 := Lib.hid (HST.out hxy)
     rw [same_t hxy]
     clear HST HNE hxy
     go_wp2_with fail
     go_roundw
     case rel => exact ⟨k + 1, by omega, by go_num, HS2, HD.out⟩
     case measure => simp [intOf]; omega
    ·have HFF := Lib.hid (HANS.out.trans (same_f (HNE.out hxy)))
     rw [same_f hxy]
     clear hxy HST HNE
     go_wp2_with fail
     go_ret
     exact ⟨by rw [HFF.out]; rfl, HD.out⟩
   ·obtain rfl : k = xs.length := by omega
    have HB := Lib.hid hb; have HT := Lib.hid (HANS.out.trans (same_t (take_all htk.out HL.out))); clear hb htk
    go_wp2_with fail
    go_ret
    exact ⟨by rw [HT.out]; rfl, HB.out⟩
 ·have HFF := Lib.hid (HANS.out.trans (same_f (ne_of_len hl)))
  have n1 : ((xs.length : Int) == (ys.length : Int)) = false := by rw [beq_eq_false_iff_ne]; omega
  have n2 : ((xs.length : Int) != (ys.length : Int)) = true := by rw [bne_iff_ne]; omega
  clear hl h h'
  go_enter Tryz.func255, Tryz.ntmps255
  go_wp2_with fail
  go_ret
  exact ⟨by rw [HFF.out]; rfl, Below.refl _ _⟩
end Go.Proofs.YtgnmollbnopigaaGreat
