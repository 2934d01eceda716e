/- Comparisons, both sides. Printed by gen_same2.py. -/
import Derived.Test.YtgnmollbnopigaaGreatJoinSTBr
import Derived.Test.YtgnmollbnopigaaGreatJoinSTBk
import Derived.Test.YtgnmollbnopigaaGreatJoinSTBc
import Derived.Test.YtgnmollbnopigaaGreatJoinSTBb
import Derived.Test.YtgnmollbnopigaaGreatJoinSTBi
set_option maxHeartbeats 16000000
set_option maxRecDepth 100000
namespace Go.Proofs.YtgnmollbnopigaaGreat
open Go.RowKit
theorem iSameSite_o : SmS shSite 8 := by
 intro X Y vs us lo hi lo' hi' w h h' hhi hhi' hf hf'
 obtain ⟨ANS, hANS⟩ : ∃ b, b = sameB X Y := ⟨_, rfl⟩
 rw [← hANS]
 obtain ⟨X0, X1, X2, x3, x4⟩ := X
 obtain ⟨Y0, Y1, Y2, y3, y4⟩ := Y
 obtain ⟨ft0, ft1, ft2, ft3, ft4⟩ := hf
 obtain ⟨gt0, gt1, gt2, gt3, gt4⟩ := hf'
 have HANS := Lib.hid hANS; clear hANS
 obtain ⟨u0, ru0, eu0, k0, u1, ru1, eu1, k1, u2, ru2, eu2, k2, u3, ru3, eu3, k3, k4⟩ := h
 generalize ru3 = u4 at *
 obtain rfl := (show u3 = [.int .i64 x3] from k3)
 have qk4 := k4; obtain ⟨A4, c4, rfl, _⟩ := qk4
 have HG := Lib.hid (show ∀ (W : World) (b : Nat) (t : TypeId), Blk W b t vs.toArray → W.rangeAt b 0 u0 ∧ W.rangeAt b 10 u1 ∧ W.rangeAt b 34 u2 ∧ W.cell? ⟨b, 35, none⟩ = some (.int .i64 x3) ∧ W.cell? ⟨b, 36, none⟩ = some (.slice A4 x4.length c4) from fun W b t hB => by
  have q := blk_all hB
  obtain ⟨p0, q⟩ := rsp eu0 (shWorld.R_len k0) q
  obtain ⟨p1, q⟩ := rsp eu1 (shBase.R_len k1) q
  obtain ⟨p2, q⟩ := rsp eu2 (shTree.R_len k2) q
  obtain ⟨p3, q⟩ := rsp eu3 rfl q
  exact ⟨p0, p1, p2, rng_one p3, rng_one q⟩)
 clear eu0 eu1 eu2 eu3
 obtain ⟨v0, rv0, ev0, l0, v1, rv1, ev1, l1, v2, rv2, ev2, l2, v3, rv3, ev3, l3, l4⟩ := h'
 generalize rv3 = v4 at *
 obtain rfl := (show v3 = [.int .i64 y3] from l3)
 have ql4 := l4; obtain ⟨B4, d4, rfl, _⟩ := ql4
 have HH := Lib.hid (show ∀ (W : World) (b : Nat) (t : TypeId), Blk W b t us.toArray → W.rangeAt b 0 v0 ∧ W.rangeAt b 10 v1 ∧ W.rangeAt b 34 v2 ∧ W.cell? ⟨b, 35, none⟩ = some (.int .i64 y3) ∧ W.cell? ⟨b, 36, none⟩ = some (.slice B4 y4.length d4) from fun W b t hB => by
  have q := blk_all hB
  obtain ⟨p0, q⟩ := rsp ev0 (shWorld.R_len l0) q
  obtain ⟨p1, q⟩ := rsp ev1 (shBase.R_len l1) q
  obtain ⟨p2, q⟩ := rsp ev2 (shTree.R_len l2) q
  obtain ⟨p3, q⟩ := rsp ev3 rfl q
  exact ⟨p0, p1, p2, rng_one p3, rng_one q⟩)
 clear ev0 ev1 ev2 ev3
 have R0 := (((((((((((Stand.nil w).ad shWorld.R u0 X0 hhi k0 shWorld.R_keep).ad shBase.R u1 X1 hhi k1 shBase.R_keep).ad shTree.R u2 X2 hhi k2 shTree.R_keep).ad (Sh.row 167 shBatch).R [.slice A4 x4.length c4] x4 hhi k4 (Sh.row 167 shBatch).R_keep).ad shWorld.R v0 Y0 hhi' l0 shWorld.R_keep).ad shBase.R v1 Y1 hhi' l1 shBase.R_keep).ad shTree.R v2 Y2 hhi' l2 shTree.R_keep).ad (Sh.row 167 shBatch).R [.slice B4 y4.length d4] y4 hhi' l4 (Sh.row 167 shBatch).R_keep).box 91 vs.toArray).box 91 us.toArray)
 rw [heap_alloc_size1] at R0
 have HR0 := Lib.hid R0
 have HZ0 := slH sizeIWorld k0
 have HY0 := slH sizeIWorld l0
 have HZ1 := slH sizeIBase k1
 have HY1 := slH sizeIBase l1
 have HZ2 := slH sizeITree k2
 have HY2 := slH sizeITree l2
 clear R0 k0 l0 k1 l1 k2 l2 k4 l4
 go_enter Tryz.func8, Tryz.ntmps8
 go_wp2_with (first | fail | (refine wlg w.heap.size 0 u0 (HG.out _ _ _ (HR0.out.get 1 rfl)).1 Tryz.underlying74 HZ0.out ?_) | (refine wlg (w.heap.size + 1) 0 v0 (HH.out _ _ _ (HR0.out.get 0 rfl)).1 Tryz.underlying74 HY0.out ?_))
 refine (iSameWorld_o X0 Y0 u0 v0 lo hi lo' hi' _ (HR0.out.get 9 rfl) (HR0.out.get 5 rfl) (HR0.out.le 9 rfl) (HR0.out.le 5 rfl) ft0 gt0).mono ?_
 rintro e0 w0 ⟨rfl, hb0⟩
 have HR1 := Lib.hid (HR0.out.below hb0)
 clear hb0 HR0  
 by_cases hne : X0 = Y0
 rotate_left
 ·rw [same_f hne]
  have HF := nf (fun X : TySite => X.1) HANS hne
  clear hne
  go_wp2_with fail
  go_ret
  exact ⟨by rw [HF.out]; rfl, HR1.out.1⟩
 rw [same_t hne]
 subst hne
 go_wp2_with (first | fail | (refine wlg w.heap.size 10 u1 (HG.out _ _ _ (HR1.out.get 1 rfl)).2.1 Tryz.underlying89 HZ1.out ?_) | (refine wlg (w.heap.size + 1) 10 v1 (HH.out _ _ _ (HR1.out.get 0 rfl)).2.1 Tryz.underlying89 HY1.out ?_))
 refine (iSameBase_o X1 Y1 u1 v1 lo hi lo' hi' _ (HR1.out.get 8 rfl) (HR1.out.get 4 rfl) (HR1.out.le 8 rfl) (HR1.out.le 4 rfl) ft1 gt1).mono ?_
 rintro e1 w1 ⟨rfl, hb1⟩
 have HR2 := Lib.hid (HR1.out.below hb1)
 clear hb1 HR1  
 by_cases hne : X1 = Y1
 rotate_left
 ·rw [same_f hne]
  have HF := nf (fun X : TySite => X.2.1) HANS hne
  clear hne
  go_wp2_with fail
  go_ret
  exact ⟨by rw [HF.out]; rfl, HR2.out.1⟩
 rw [same_t hne]
 subst hne
 go_wp2_with (first | fail | (refine wlg w.heap.size 34 u2 (HG.out _ _ _ (HR2.out.get 1 rfl)).2.2.1 Tryz.underlying66 HZ2.out ?_) | (refine wlg (w.heap.size + 1) 34 v2 (HH.out _ _ _ (HR2.out.get 0 rfl)).2.2.1 Tryz.underlying66 HY2.out ?_))
 refine (iSameTree_o X2 Y2 u2 v2 lo hi lo' hi' _ (HR2.out.get 7 rfl) (HR2.out.get 3 rfl) (HR2.out.le 7 rfl) (HR2.out.le 3 rfl) ft2 gt2).mono ?_
 rintro e2 w2 ⟨rfl, hb2⟩
 have HR3 := Lib.hid (HR2.out.below hb2)
 clear hb2 HR2  
 by_cases hne : X2 = Y2
 rotate_left
 ·rw [same_f hne]
  have HF := nf (fun X : TySite => X.2.2.1) HANS hne
  clear hne
  go_wp2_with fail
  go_ret
  exact ⟨by rw [HF.out]; rfl, HR3.out.1⟩
 rw [same_t hne]
 subst hne
 have f3 := (HG.out _ _ _ (HR3.out.get 1 rfl)).2.2.2.1
 have g3 := (HH.out _ _ _ (HR3.out.get 0 rfl)).2.2.2.1
 have f4 := (HG.out _ _ _ (HR3.out.get 1 rfl)).2.2.2.2
 have g4 := (HH.out _ _ _ (HR3.out.get 0 rfl)).2.2.2.2
 by_cases hne : x3 = y3
 rotate_left
 ·have HF := nf (fun X : TySite => X.2.2.2.1) HANS hne
  have hq : (x3 == y3) = false := beq_eq_false_iff_ne.2 hne
  clear hne
  go_wp2_with fail
  go_ret
  exact ⟨by rw [HF.out]; rfl, HR3.out.1⟩
 subst hne
 go_wp2_with fail
 refine (iSameBatches A4 B4 c4 d4 x4 y4 lo hi lo' hi' _ (HR3.out.get 6 rfl) (HR3.out.get 2 rfl) (HR3.out.le 6 rfl) (HR3.out.le 2 rfl) ft4 gt4).mono ?_
 rintro e4 w4 ⟨rfl, hb4⟩
 have HR4 := Lib.hid (HR3.out.below hb4)
 clear hb4 HR3  f3 g3 f4 g4
 by_cases hne : x4 = y4
 rotate_left
 ·rw [same_f hne]
  have HF := nf (fun X : TySite => X.2.2.2.2) HANS hne
  clear hne
  go_wp2_with fail
  go_ret
  exact ⟨by rw [HF.out]; rfl, HR4.out.1⟩
 rw [same_t hne]
 subst hne
 have HT := Lib.hid (HANS.out.trans (same_t rfl))
 go_wp2_with fail
 go_ret
 exact ⟨by rw [HT.out]; rfl, HR4.out.1⟩
end Go.Proofs.YtgnmollbnopigaaGreat
/- Comparisons, both sides. Printed by gen_same2.py. -/
namespace Go.Proofs.YtgnmollbnopigaaGreat
open Go.RowKit
theorem l09SameBinds_r (A B : Option Addr) (c d : Nat) (xs ys : List TyBind) (lo hi lo' hi' : Nat) (w : World) (h : (Sh.row 359 shBind).R w lo hi [.slice A xs.length c] xs) (h' : (Sh.row 359 shBind).R w lo' hi' [.slice B ys.length d] ys) (hhi : hi ≤ w.heap.size) (hhi' : hi' ≤ w.heap.size) (hn : xs.length ≤ 4294967296) (_hm : ys.length ≤ 4294967296) :
  Calls Tryz.prog 255 #[.slice A xs.length c, .slice B ys.length d] w fun e w' => e = .returned (.bool (sameB xs ys)) ∧ Below w.heap.size w w' := by
 obtain ⟨ANS, hANS⟩ : ∃ b, b = sameB xs ys := ⟨_, rfl⟩
 rw [← hANS]
 have HANS := Lib.hid hANS; clear hANS
 by_cases hl : xs.length = ys.length
 ·have HA := Lib.hid h; have HA' := Lib.hid h'; have HL := Lib.hid hl
  rw [← hl] at HA' ⊢
  clear h h' _hm hl
  go_enter Tryz.func255, Tryz.ntmps255
  go_wp2_with fail
  go_loopw [5] (fun i wr => ∃ k : Nat, k ≤ xs.length ∧ i = .int .i64 k ∧ Hid (xs.take k = ys.take k) ∧ Below w.heap.size w wr) (fun i _ => xs.length - (intOf i).toNat)
  case atStart => exact ⟨0, Nat.zero_le _, rfl, Lib.hid rfl, Below.refl _ _⟩
  case round =>
   obtain ⟨k, hk, rfl, htk, hb⟩ := hrel
   by_cases hlt : k < xs.length
   ·obtain ⟨b, off, rfl, hb1, hb2, us, hc, hX⟩ := row_at ((Sh.row 359 shBind).R_below HA.out hb hhi) hlt
    obtain ⟨b', off', rfl, hb1', hb2', us', hc', hX'⟩ := row_at ((Sh.row 359 shBind).R_below HA'.out hb hhi') hlt
    have HST := Lib.hid (fun he => take_step (d := shBind.d) htk.out hlt HL.out he)
    have HNE := Lib.hid (fun he => ne_at (xs := xs) (ys := ys) (d := shBind.d) (k := k) he)
    generalize xs.getD k shBind.d = X at *
    generalize ys.getD k shBind.d = Y at *
    obtain ⟨x0, x1⟩ := X
    obtain ⟨y0, y1⟩ := Y
    obtain rfl : us = [.string x0, .int .i64 x1] := shBind_R.1 hX
    obtain rfl : us' = [.string y0, .int .i64 y1] := shBind_R.1 hX'
    have HC := Lib.hid (show wr.drew.rangeAt b (off + k * 2) [.string x0, .int .i64 x1] from rng_of hc); have HC' := Lib.hid (show wr.drew.rangeAt b' (off' + k * 2) [.string y0, .int .i64 y1] from rng_of hc')
    have HZ := slH sizeIBind hX; have HZ' := slH sizeIBind hX'
    have HD := Lib.hid hb.drew
    clear hc hc' hX hX' htk
    go_upto_region 6 with fail
    refine AnyT.region (fun _ => false) (fun W => W.rangeAt b (off + k * 2) [.string x0, .int .i64 x1] ∧ W.rangeAt b' (off' + k * 2) [.string y0, .int .i64 y1]) (by kernel_rfl) ⟨HC.out, HC'.out⟩ (fun hHeld => ?_)
    generalize wr.drew = w4 at *
    clear HC HC'
    (refine AnyT.ta 0 17 ?_; simp only [Act.put, za, zb, zc])
    (refine AnyT.ta 1 18 ?_; simp only [Act.put, za, zb, zc])
    (refine AnyT.ta 2 19 ?_; simp only [Act.put, za, zb, zc])
    refine AnyT.tx 3 20 (.agg ([.string x0, .int .i64 x1] : List Value).toArray) (fun W hS => exec_loadMid _ _ rfl b (off + k * 2) rfl _ hS.1 Tryz.underlying359 rfl HZ.out) ?_
    simp only [Act.put, za, zb, zc]
    (refine AnyT.ta 4 21 ?_; simp only [Act.put, za, zb, zc])
    (refine AnyT.ta 5 22 ?_; simp only [Act.put, za, zb, zc])
    (refine AnyT.ta 6 23 ?_; simp only [Act.put, za, zb, zc])
    refine AnyT.tx 7 24 (.agg ([.string y0, .int .i64 y1] : List Value).toArray) (fun W hS => exec_loadMid _ _ rfl b' (off' + k * 2) rfl _ hS.2 Tryz.underlying359 rfl HZ'.out) ?_
    simp only [Act.put, za, zb, zc]
    refine AnyT.takeAny 8 25 (.bool (!sameB (x0, x1) (y0, y1))) rfl (by kernel_rfl) (by kernel_rfl) (by kernel_rfl) rfl rfl (fun _ _ _ _ h => h) rfl (fun W => exec_neq rfl rfl rfl (by kernel_rfl) (fun w => equalBind _ _ _ _ w)) (by assumption) ?_
    simp only [Act.put, za, zb, zc]
    refine AnyT.done (by kernel_rfl) ?_ _
    clear hHeld
    by_cases hxy : (x0, x1) = (y0, y1)
    ·have HS2 := Lib.hid (HST.out hxy)
     rw [same_t hxy]
     clear HST HNE hxy
     go_wp2_with fail
     go_roundw
     case rel => exact ⟨k + 1, by omega, by go_num, HS2, HD.out⟩
     case measure => simp [intOf]; omega
    ·have HFF := Lib.hid (HANS.out.trans (same_f (HNE.out hxy)))
     rw [same_f hxy]
     clear hxy HST HNE
     go_wp2_with fail
     go_ret
     exact ⟨by rw [HFF.out]; rfl, HD.out⟩
   ·obtain rfl : k = xs.length := by omega
    have HB := Lib.hid hb; have HT := Lib.hid (HANS.out.trans (same_t (take_all htk.out HL.out))); clear hb htk
    go_wp2_with fail
    go_ret
    exact ⟨by rw [HT.out]; rfl, HB.out⟩
 ·have HFF := Lib.hid (HANS.out.trans (same_f (ne_of_len hl)))
  have n1 : ((xs.length : Int) == (ys.length : Int)) = false := by rw [beq_eq_false_iff_ne]; omega
  have n2 : ((xs.length : Int) != (ys.length : Int)) = true := by rw [bne_iff_ne]; omega
  clear hl h h'
  go_enter Tryz.func255, Tryz.ntmps255
  go_wp2_with fail
  go_ret
  exact ⟨by rw [HFF.out]; rfl, Below.refl _ _⟩
end Go.Proofs.YtgnmollbnopigaaGreat
/- Comparisons, both sides. Printed by gen_same2.py. -/
namespace Go.Proofs.YtgnmollbnopigaaGreat
open Go.RowKit
theorem sSameTriggers : SmR 229 shTrigger 55 := by
 intro A B c d xs ys lo hi lo' hi' w h h' hhi hhi' hf hf'
 obtain ⟨ANS, hANS⟩ : ∃ b, b = sameB xs ys := ⟨_, rfl⟩
 rw [← hANS]
 have HANS := Lib.hid hANS; clear hANS
 have hn := hf.1
 by_cases hl : xs.length = ys.length
 ·have HA := Lib.hid h; have HA' := Lib.hid h'; have HL := Lib.hid hl; have HF := Lib.hid hf.2; have HF' := Lib.hid hf'.2
  rw [← hl] at HA' ⊢
  clear h h' hl hf hf'
  go_enter Tryz.func55, Tryz.ntmps55
  (try dsimp only [List.append])
  go_wp2_with fail
  go_loopw [5] (fun i wr => ∃ k : Nat, k ≤ xs.length ∧ i = .int .i64 k ∧ Hid (xs.take k = ys.take k) ∧ Below w.heap.size w wr) (fun i _ => xs.length - (intOf i).toNat)
  case atStart => exact ⟨0, Nat.zero_le _, rfl, Lib.hid rfl, Below.refl _ _⟩
  case round =>
   obtain ⟨k, hk, rfl, htk, hb⟩ := hrel
   by_cases hlt : k < xs.length
   ·have hly : k < ys.length := by have := HL.out; omega
    obtain ⟨b, off, rfl, hb1, hb2, us, hc, hX⟩ := row_at ((Sh.row 229 shTrigger).R_below HA.out hb hhi) hlt
    obtain ⟨b', off', rfl, hb1', hb2', us', hc', hX'⟩ := row_at ((Sh.row 229 shTrigger).R_below HA'.out hb hhi') hlt
    have HST := Lib.hid (fun he => take_step (d := shTrigger.d) htk.out hlt HL.out he)
    have HNE := Lib.hid (fun he => ne_at (xs := xs) (ys := ys) (d := shTrigger.d) (k := k) he)
    have HX := Lib.hid (HF.out _ (getD_in (d := shTrigger.d) hlt)); have HX' := Lib.hid (HF'.out _ (getD_in (d := shTrigger.d) hly))
    generalize xs.getD k shTrigger.d = X at *
    generalize ys.getD k shTrigger.d = Y at *
    have hsz := hb.size
    have hlu := shTrigger.R_len hX; have hlu' := shTrigger.R_len hX'
    obtain ⟨HC, HZ, HS, HO⟩ := elF (P := Tryz.prog) sizeITrigger hc hX
    obtain ⟨HC', HZ', HS', HO'⟩ := elF (P := Tryz.prog) sizeITrigger hc' hX'
    have HT := Lib.hid (there_blk (n := us.toArray.size) (o := 0) (Blk.new wr 229 zz5) (by rw [List.size_toArray, hlu]; exact Nat.le_refl _))
    have HR := Lib.hid hX; have HR' := Lib.hid hX'; have HB := Lib.hid hb
    obtain ⟨hbl, hr1, hz5⟩ := cpyF HT.out
    have HBL := Lib.hid hbl; have HR1 := Lib.hid hr1
    clear hb hX hX' hc hc' htk hbl hr1
    go_upto_region 7 with (first | fail | (refine wlg b (off + k * 7) us HC.out Tryz.underlying229 HZ.out ?_) | (refine wpList_store_mid rfl _ _ _ rfl wr.heap.size 0 us.toArray rfl rfl HT.out HS.out HO.out ?_))
    clear HT HS HO
    generalize (wr.alloc (.cells zz5 229)).setCells wr.heap.size 0 us = w5 at *
    have HC5 := Lib.hid (rng_below HC'.out HBL.out (by omega))
    have HT := Lib.hid (there_blk (n := us'.toArray.size) (o := 0) (Blk.new w5 229 zz5) (by rw [List.size_toArray, hlu']; exact Nat.le_refl _))
    have hbl : Below w5.heap.size w5 ((w5.alloc (.cells zz5 229)).setCells w5.heap.size 0 us') := ((Below.refl _ _).alloc (Nat.le_refl _) _).trans ((setCells_out w5.heap.size us' 0 (w5.alloc (.cells zz5 229))).1.below1 (Nat.le_refl _) (by simp))
    have hr2 : ((w5.alloc (.cells zz5 229)).setCells w5.heap.size 0 us').rangeAt w5.heap.size 0 us' := World.rangeAt_setCells_same _ _ _ _ (by simpa using HT.out)
    have HBM := Lib.hid hbl; have HR2 := Lib.hid hr2; have HQ1 := Lib.hid (rng_below HR1.out hbl (by omega))
    have hz6 : w5.heap.size + 1 ≤ ((w5.alloc (.cells zz5 229)).setCells w5.heap.size 0 us').heap.size := by rw [(setCells_out _ _ _ _).2]; simp
    clear hbl hr2 HC HR1
    go_upto_region 8 with (first | fail | (refine wlg b' (off' + k * 7) us' HC5.out Tryz.underlying229 HZ'.out ?_) | (refine wpList_store_mid rfl _ _ _ rfl w5.heap.size 0 us'.toArray rfl rfl HT.out HS'.out HO'.out ?_))
    clear HT HS' HO' HC5 HC'
    have HBB := Lib.hid (HBL.out.trans (HBM.out.mono (by omega)))
    generalize (w5.alloc (.cells zz5 229)).setCells w5.heap.size 0 us' = w6 at *
    have hs6 := HBB.out.size
    have HD := Lib.hid (HB.out.trans (HBB.out.mono hsz))
    have hRX := shTrigger.R_below HR.out HBB.out (by omega); have hRY := shTrigger.R_below HR'.out HBB.out (by omega)
    clear HR HR' HBL HBM HBB HB HZ HZ' hlu hlu'
    obtain ⟨p0, p1, p2, p3, p4, p5, p6⟩ := X
    obtain ⟨q0, q1, q2, q3, q4, q5, q6⟩ := Y
    have hFX := HX.out; have hFY := HX'.out
    obtain ⟨fe0, fe1, fe2, fe3, fe4, fe5, fe6⟩ := hFX
    obtain ⟨ge0, ge1, ge2, ge3, ge4, ge5, ge6⟩ := hFY
    clear HX HX'
    obtain ⟨s0, rs0, es0, k0, s1, rs1, es1, k1, s2, rs2, es2, k2, s3, rs3, es3, k3, s4, rs4, es4, k4, s5, rs5, es5, k5, k6⟩ := hRX
    generalize rs5 = s6 at *
    obtain rfl := (show s0 = [.int .i64 p0] from k0)
    obtain rfl := (show s1 = [.string p1] from k1)
    have qk2 := k2; obtain ⟨M2, m2, rfl, _⟩ := qk2
    obtain rfl := (show s3 = [.bool p3] from k3)
    obtain rfl := (show s4 = [.bool p4] from k4)
    obtain rfl := (show s5 = [.string p5] from k5)
    obtain rfl := (show s6 = [.string p6] from k6)
    have HE := Lib.hid (show ∀ (W : World) (b : Nat), W.rangeAt b 0 us → W.cell? ⟨b, 0, none⟩ = some (.int .i64 p0) ∧ W.cell? ⟨b, 1, none⟩ = some (.string p1) ∧ W.cell? ⟨b, 2, none⟩ = some (.slice M2 p2.length m2) ∧ W.cell? ⟨b, 3, none⟩ = some (.bool p3) ∧ W.cell? ⟨b, 4, none⟩ = some (.bool p4) ∧ W.cell? ⟨b, 5, none⟩ = some (.string p5) ∧ W.cell? ⟨b, 6, none⟩ = some (.string p6) from fun W b hB => by
     have q := hB
     obtain ⟨p0, q⟩ := rsp es0 rfl q
     obtain ⟨p1, q⟩ := rsp es1 rfl q
     obtain ⟨p2, q⟩ := rsp es2 rfl q
     obtain ⟨p3, q⟩ := rsp es3 rfl q
     obtain ⟨p4, q⟩ := rsp es4 rfl q
     obtain ⟨p5, q⟩ := rsp es5 rfl q
     exact ⟨rng_one p0, rng_one p1, rng_one p2, rng_one p3, rng_one p4, rng_one p5, rng_one q⟩)
    clear es0 es1 es2 es3 es4 es5
    obtain ⟨t0, rt0, et0, l0, t1, rt1, et1, l1, t2, rt2, et2, l2, t3, rt3, et3, l3, t4, rt4, et4, l4, t5, rt5, et5, l5, l6⟩ := hRY
    generalize rt5 = t6 at *
    obtain rfl := (show t0 = [.int .i64 q0] from l0)
    obtain rfl := (show t1 = [.string q1] from l1)
    have ql2 := l2; obtain ⟨N2, n2, rfl, _⟩ := ql2
    obtain rfl := (show t3 = [.bool q3] from l3)
    obtain rfl := (show t4 = [.bool q4] from l4)
    obtain rfl := (show t5 = [.string q5] from l5)
    obtain rfl := (show t6 = [.string q6] from l6)
    have HJ := Lib.hid (show ∀ (W : World) (b : Nat), W.rangeAt b 0 us' → W.cell? ⟨b, 0, none⟩ = some (.int .i64 q0) ∧ W.cell? ⟨b, 1, none⟩ = some (.string q1) ∧ W.cell? ⟨b, 2, none⟩ = some (.slice N2 q2.length n2) ∧ W.cell? ⟨b, 3, none⟩ = some (.bool q3) ∧ W.cell? ⟨b, 4, none⟩ = some (.bool q4) ∧ W.cell? ⟨b, 5, none⟩ = some (.string q5) ∧ W.cell? ⟨b, 6, none⟩ = some (.string q6) from fun W b hB => by
     have q := hB
     obtain ⟨p0, q⟩ := rsp et0 rfl q
     obtain ⟨p1, q⟩ := rsp et1 rfl q
     obtain ⟨p2, q⟩ := rsp et2 rfl q
     obtain ⟨p3, q⟩ := rsp et3 rfl q
     obtain ⟨p4, q⟩ := rsp et4 rfl q
     obtain ⟨p5, q⟩ := rsp et5 rfl q
     exact ⟨rng_one p0, rng_one p1, rng_one p2, rng_one p3, rng_one p4, rng_one p5, rng_one q⟩)
    clear et0 et1 et2 et3 et4 et5
    have f0 := (HE.out _ _ HQ1.out).1; have g0 := (HJ.out _ _ HR2.out).1
    have f1 := (HE.out _ _ HQ1.out).2.1; have g1 := (HJ.out _ _ HR2.out).2.1
    have f2 := (HE.out _ _ HQ1.out).2.2.1; have g2 := (HJ.out _ _ HR2.out).2.2.1
    have f3 := (HE.out _ _ HQ1.out).2.2.2.1; have g3 := (HJ.out _ _ HR2.out).2.2.2.1
    have f4 := (HE.out _ _ HQ1.out).2.2.2.2.1; have g4 := (HJ.out _ _ HR2.out).2.2.2.2.1
    have f5 := (HE.out _ _ HQ1.out).2.2.2.2.2.1; have g5 := (HJ.out _ _ HR2.out).2.2.2.2.2.1
    have f6 := (HE.out _ _ HQ1.out).2.2.2.2.2.2; have g6 := (HJ.out _ _ HR2.out).2.2.2.2.2.2
    by_cases hne : p0 = q0
    rotate_left
    ·have HFF := Lib.hid (HANS.out.trans (same_f (HNE.out (fun e => hne (congrArg (fun X : TyTrigger => X.1) e)))))
     have hq : (p0 == q0) = false := beq_eq_false_iff_ne.2 hne
     have hq2 : (p0 != q0) = true := by simp [hq, bne]
     clear hne HST HNE
     go_wp2_with fail
     go_ret
     exact ⟨by rw [HFF.out]; rfl, HD.out⟩
    subst hne
    by_cases hne : p1 = q1
    rotate_left
    ·have HFF := Lib.hid (HANS.out.trans (same_f (HNE.out (fun e => hne (congrArg (fun X : TyTrigger => X.2.1) e)))))
     have hq : (p1.toList == q1.toList) = false := str_ne hne
     have hq2 : (!(p1.toList == q1.toList)) = true := by simp [hq]
     clear hne HST HNE
     go_wp2_with fail
     go_ret
     exact ⟨by rw [HFF.out]; rfl, HD.out⟩
    subst hne
    go_wp2_with fail
    refine (l24Texts_r M2 N2 m2 n2 p2 q2 lo hi lo' hi' w6 k2 l2 (by omega) (by omega) fe2.1 ge2.1).mono ?_
    rintro e7 w7 ⟨rfl, hb7⟩
    have HD7 := Lib.hid (HD.out.trans (hb7.mono (by omega)))
    have HQ7 := Lib.hid (rng_below HQ1.out hb7 (by omega)); have HR7 := Lib.hid (rng_below HR2.out hb7 (by omega))
    clear hb7 HQ1 HR2 f0 g0 f1 g1 f2 g2 f3 g3 f4 g4 f5 g5 f6 g6
    have HQ1 := HQ7; have HR2 := HR7; clear HQ7 HR7
    by_cases hne : p2 = q2
    rotate_left
    ·rw [same_f hne]
     have HFF := Lib.hid (HANS.out.trans (same_f (HNE.out (fun e => hne (congrArg (fun X : TyTrigger => X.2.2.1) e)))))
     clear hne HST HNE
     go_wp2_with fail
     go_ret
     exact ⟨by rw [HFF.out]; rfl, HD7.out⟩
    rw [same_t hne]
    subst hne
    have f3 := (HE.out _ _ HQ1.out).2.2.2.1; have g3 := (HJ.out _ _ HR2.out).2.2.2.1
    have f4 := (HE.out _ _ HQ1.out).2.2.2.2.1; have g4 := (HJ.out _ _ HR2.out).2.2.2.2.1
    have f5 := (HE.out _ _ HQ1.out).2.2.2.2.2.1; have g5 := (HJ.out _ _ HR2.out).2.2.2.2.2.1
    have f6 := (HE.out _ _ HQ1.out).2.2.2.2.2.2; have g6 := (HJ.out _ _ HR2.out).2.2.2.2.2.2
    by_cases hne : p3 = q3
    rotate_left
    ·have HFF := Lib.hid (HANS.out.trans (same_f (HNE.out (fun e => hne (congrArg (fun X : TyTrigger => X.2.2.2.1) e)))))
     have hq : (p3 == q3) = false := beq_eq_false_iff_ne.2 hne
     have hq2 : (p3 != q3) = true := by simp [hq, bne]
     have hq3 := hq; (try simp only [beq_eq_false_iff_ne, ne_eq] at hq3)
     clear hne HST HNE
     go_wp2_with fail
     go_ret
     exact ⟨by rw [HFF.out]; rfl, HD7.out⟩
    subst hne
    by_cases hne : p4 = q4
    rotate_left
    ·have HFF := Lib.hid (HANS.out.trans (same_f (HNE.out (fun e => hne (congrArg (fun X : TyTrigger => X.2.2.2.2.1) e)))))
     have hq : (p4 == q4) = false := beq_eq_false_iff_ne.2 hne
     have hq2 : (p4 != q4) = true := by simp [hq, bne]
     have hq3 := hq; (try simp only [beq_eq_false_iff_ne, ne_eq] at hq3)
     clear hne HST HNE
     go_wp2_with fail
     go_ret
     exact ⟨by rw [HFF.out]; rfl, HD7.out⟩
    subst hne
    by_cases hne : p5 = q5
    rotate_left
    ·have HFF := Lib.hid (HANS.out.trans (same_f (HNE.out (fun e => hne (congrArg (fun X : TyTrigger => X.2.2.2.2.2.1) e)))))
     have hq : (p5.toList == q5.toList) = false := str_ne hne
     have hq2 : (!(p5.toList == q5.toList)) = true := by simp [hq]
     clear hne HST HNE
     go_wp2_with fail
     go_ret
     exact ⟨by rw [HFF.out]; rfl, HD7.out⟩
    subst hne
    by_cases hne : p6 = q6
    rotate_left
    ·have HFF := Lib.hid (HANS.out.trans (same_f (HNE.out (fun e => hne (congrArg (fun X : TyTrigger => X.2.2.2.2.2.2) e)))))
     have hq : (p6.toList == q6.toList) = false := str_ne hne
     have hq2 : (!(p6.toList == q6.toList)) = true := by simp [hq]
     clear hne HST HNE
     go_wp2_with fail
     go_ret
     exact ⟨by rw [HFF.out]; rfl, HD7.out⟩
    subst hne
    have HS2 := Lib.hid (HST.out rfl)
    clear HST HNE
    go_wp2_with fail
    go_roundw
    case rel => exact ⟨k + 1, by omega, by go_num, HS2, HD7.out⟩
    case measure => simp [intOf]; omega
   ·obtain rfl : k = xs.length := by omega
    have HB := Lib.hid hb; have HT := Lib.hid (HANS.out.trans (same_t (take_all htk.out HL.out))); clear hb htk
    go_wp2_with fail
    go_ret
    exact ⟨by rw [HT.out]; rfl, HB.out⟩
 ·have HFF := Lib.hid (HANS.out.trans (same_f (ne_of_len hl)))
  have hm := hf'.1
  have n1 : ((xs.length : Int) == (ys.length : Int)) = false := by rw [beq_eq_false_iff_ne]; omega
  have n2 : ((xs.length : Int) != (ys.length : Int)) = true := by rw [bne_iff_ne]; omega
  clear hl h h' hf hf'
  go_enter Tryz.func55, Tryz.ntmps55
  (try dsimp only [List.append])
  go_wp2_with fail
  go_ret
  exact ⟨by rw [HFF.out]; rfl, Below.refl _ _⟩
end Go.Proofs.YtgnmollbnopigaaGreat
