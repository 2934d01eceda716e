/- Comparisons, both sides. Printed by gen_same2.py. -/
import Derived.Test.YtgnmollbnopigaaGreatJoinSSBq
import Derived.Test.YtgnmollbnopigaaGreatJoinSSBk
import Derived.Test.YtgnmollbnopigaaGreatJoinSSBe
set_option maxHeartbeats 16000000
set_option maxRecDepth 100000
namespace Go.Proofs.YtgnmollbnopigaaGreat
open Go.RowKit
theorem sSameBtree_o : SmS shBtree 58 := by
 intro X Y vs us lo hi lo' hi' w h h' hhi hhi' hf hf'
 obtain ⟨ANS, hANS⟩ : ∃ b, b = sameB X Y := ⟨_, rfl⟩
 rw [← hANS]
 obtain ⟨x0, x1⟩ := X
 obtain ⟨y0, y1⟩ := Y
 obtain ⟨ft0, ft1⟩ := hf
 obtain ⟨gt0, gt1⟩ := hf'
 have HANS := Lib.hid hANS; clear hANS
 obtain ⟨u0, ru0, eu0, k0, k1⟩ := h
 generalize ru0 = u1 at *
 obtain rfl := (show u0 = [.int .i64 x0] from k0)
 have qk1 := k1; obtain ⟨A1, c1, rfl, _⟩ := qk1
 have HG := Lib.hid (show ∀ (W : World) (b : Nat) (t : TypeId), Blk W b t vs.toArray → W.cell? ⟨b, 0, none⟩ = some (.int .i64 x0) ∧ W.cell? ⟨b, 1, none⟩ = some (.slice A1 x1.length c1) from fun W b t hB => by
  have q := blk_all hB
  obtain ⟨p0, q⟩ := rsp eu0 rfl q
  exact ⟨rng_one p0, rng_one q⟩)
 clear eu0
 obtain ⟨v0, rv0, ev0, l0, l1⟩ := h'
 generalize rv0 = v1 at *
 obtain rfl := (show v0 = [.int .i64 y0] from l0)
 have ql1 := l1; obtain ⟨B1, d1, rfl, _⟩ := ql1
 have HH := Lib.hid (show ∀ (W : World) (b : Nat) (t : TypeId), Blk W b t us.toArray → W.cell? ⟨b, 0, none⟩ = some (.int .i64 y0) ∧ W.cell? ⟨b, 1, none⟩ = some (.slice B1 y1.length d1) from fun W b t hB => by
  have q := blk_all hB
  obtain ⟨p0, q⟩ := rsp ev0 rfl q
  exact ⟨rng_one p0, rng_one q⟩)
 clear ev0
 have R0 := (((((Stand.nil w).ad (Sh.row 239 shSlot).R [.slice A1 x1.length c1] x1 hhi k1 (Sh.row 239 shSlot).R_keep).ad (Sh.row 239 shSlot).R [.slice B1 y1.length d1] y1 hhi' l1 (Sh.row 239 shSlot).R_keep).box 77 vs.toArray).box 77 us.toArray)
 rw [heap_alloc_size1] at R0
 have HR0 := Lib.hid R0
 clear R0 k1 l1
 go_enter Tryz.func58, Tryz.ntmps58
 have f0 := (HG.out _ _ _ (HR0.out.get 1 rfl)).1
 have g0 := (HH.out _ _ _ (HR0.out.get 0 rfl)).1
 have f1 := (HG.out _ _ _ (HR0.out.get 1 rfl)).2
 have g1 := (HH.out _ _ _ (HR0.out.get 0 rfl)).2
 by_cases hne : x0 = y0
 rotate_left
 ·have HF := nf (fun X : TyBtree => X.1) HANS hne
  have hq : (x0 == y0) = false := beq_eq_false_iff_ne.2 hne
  have hq2 : (x0 != y0) = true := by simp [hq, bne]
  clear hne
  go_wp2_with fail
  go_ret
  exact ⟨by rw [HF.out]; rfl, HR0.out.1⟩
 subst hne
 by_cases hne : x1.length = y1.length
 rotate_left
 ·have HF := nf (fun X : TyBtree => (X.2).length) HANS hne
  have n1 : ((x1.length : Int) == (y1.length : Int)) = false := by rw [beq_eq_false_iff_ne]; omega
  have n2 : ((x1.length : Int) != (y1.length : Int)) = true := by rw [bne_iff_ne]; omega
  clear hne
  go_wp2_with fail
  go_ret
  exact ⟨by rw [HF.out]; rfl, HR0.out.1⟩
 have HL1 := Lib.hid hne
 have m1 : ((x1.length : Int) == (y1.length : Int)) = true := by rw [beq_iff_eq]; omega
 have n1 : ((x1.length : Int) != (y1.length : Int)) = false := by rw [hne]; simp
 clear hne
 go_wp2_with fail
 obtain ⟨Q, q0, qs, qg⟩ := HR0.out.veilQ
 have HQ0 := Lib.hid q0; have QS := Lib.hid qs; have QG := Lib.hid qg
 clear q0 qs qg HR0 f0 g0 f1 g1 m1 n1
 have hn1 := ft1.1
 go_loopw [5] (fun i wr => ∃ k : Nat, k ≤ x1.length ∧ i = .int .i64 k ∧ Hid (x1.take k = y1.take k) ∧ Hid (Q wr)) (fun i _ => x1.length - (intOf i).toNat)
 case atStart => exact ⟨0, Nat.zero_le _, rfl, Lib.hid rfl, HQ0⟩
 case round =>
  obtain ⟨k, hk, rfl, htk, hq1⟩ := hrel
  have HRr := Lib.hid (QG.out _ hq1.out)
  have f1 := (HG.out _ _ _ (HRr.out.get 1 rfl)).2
  have g1 := (HH.out _ _ _ (HRr.out.get 0 rfl)).2
  by_cases hlt : k < x1.length
  ·have hly : k < y1.length := by have := HL1.out; omega
   obtain ⟨b, off, rfl, hb1, hb2, us, hc, hX⟩ := row_at (HRr.out.get 3 rfl) hlt
   obtain ⟨b', off', rfl, hb1', hb2', us', hc', hX'⟩ := row_at (HRr.out.get 2 rfl) hly
   have HST := Lib.hid (fun he => take_step (d := shSlot.d) htk.out hlt HL1.out he)
   have HNE := Lib.hid (fun he => ne_at (xs := x1) (ys := y1) (d := shSlot.d) (k := k) he)
   have HX := Lib.hid (ft1.2 _ (getD_in (d := shSlot.d) hlt)); have HX' := Lib.hid (gt1.2 _ (getD_in (d := shSlot.d) hly))
   generalize x1.getD k shSlot.d = EX at *
   generalize y1.getD k shSlot.d = EY at *
   obtain ⟨p0, p1⟩ := EX
   obtain ⟨q0, q1⟩ := EY
   have hX := shSlot.R_below hX (below_drewN' wr 1) (HRr.out.le 3 rfl); have hX' := shSlot.R_below hX' (below_drewN' wr 1) (HRr.out.le 2 rfl)
   obtain ⟨s0, s1, es0, k0, k1⟩ := hX
   obtain rfl := (show s0 = [.int .i64 p0] from k0)
   obtain ⟨t0, t1, et0, l0, l1⟩ := hX'
   obtain rfl := (show t0 = [.int .i64 q0] from l0)
   have HC := Lib.hid (show wr.drew.rangeAt b (off + k * 5) us from rng_of hc); have HC' := Lib.hid (show wr.drew.rangeAt b' (off' + k * 5) us' from rng_of hc')
   have HCF := Lib.hid (show ∀ W : World, W.rangeAt b (off + k * 5) us → W.cell? ⟨b, off + k * 5, none⟩ = some (.int .i64 p0) ∧ W.rangeAt b (off + k * 5 + 1) s1 from fun W q => by
    rw [es0] at q; obtain ⟨q0, q⟩ := rng_split rfl q; exact ⟨rng_one q0, q⟩)
   have HCF' := Lib.hid (show ∀ W : World, W.rangeAt b' (off' + k * 5) us' → W.cell? ⟨b', off' + k * 5, none⟩ = some (.int .i64 q0) ∧ W.rangeAt b' (off' + k * 5 + 1) t1 from fun W q => by
    rw [et0] at q; obtain ⟨q0, q⟩ := rng_split rfl q; exact ⟨rng_one q0, q⟩)
   have HR := Lib.hid (show shPage.R wr.drew lo hi s1 p1 from k1); have HR' := Lib.hid (show shPage.R wr.drew lo' hi' t1 q1 from l1)
   have HZ := slH sizeIPage k1; have HZ' := slH sizeIPage l1
   have HQd := Lib.hid (QS.out _ wr.drew hq1.out (below_drewN' wr 1))
   have HRd := Lib.hid (QG.out _ HQd.out)
   have HF1 := Lib.hid (show wr.drew.cell? _ = _ from (HG.out _ _ _ (HRd.out.get 1 rfl)).2); have HF2 := Lib.hid (show wr.drew.cell? _ = _ from (HH.out _ _ _ (HRd.out.get 0 rfl)).2)
   clear hc hc' htk HRr es0 et0 k0 l0 k1 l1
   go_upto_region 6 with fail
   clear f1 g1
   refine AnyT.region (fun _ => false) (fun W => (W.cell? ⟨w.heap.size, 1, none⟩ = some (.slice (some ⟨b, off, none⟩) x1.length c1) ∧ W.cell? ⟨w.heap.size + 1, 1, none⟩ = some (.slice (some ⟨b', off', none⟩) y1.length d1)) ∧ (W.cell? ⟨b, off + k * 5, none⟩ = some (.int .i64 p0) ∧ W.rangeAt b (off + k * 5 + 1) s1) ∧ W.cell? ⟨b', off' + k * 5, none⟩ = some (.int .i64 q0) ∧ W.rangeAt b' (off' + k * 5 + 1) t1) (by kernel_rfl) ⟨⟨HF1.out, HF2.out⟩, HCF.out _ HC.out, HCF'.out _ HC'.out⟩ (fun hHeld => ?_)
   generalize wr.drew = w4 at *
   (refine AnyT.ta 0 27 ?_; simp only [Act.put, za, zb, zc])
   (refine AnyT.tk 1 28 ?_; simp only [Act.put, za, zb, zc])
   (refine AnyT.ta 2 29 ?_; simp only [Act.put, za, zb, zc])
   (refine AnyT.ta 3 30 ?_; simp only [Act.put, za, zb, zc])
   (refine AnyT.ta 4 31 ?_; simp only [Act.put, za, zb, zc])
   (refine AnyT.tk 5 32 ?_; simp only [Act.put, za, zb, zc])
   (refine AnyT.ta 6 33 ?_; simp only [Act.put, za, zb, zc])
   (refine AnyT.tk 7 34 ?_; simp only [Act.put, za, zb, zc])
   (refine AnyT.ta 8 35 ?_; simp only [Act.put, za, zb, zc])
   (refine AnyT.ta 9 36 ?_; simp only [Act.put, za, zb, zc])
   (refine AnyT.ta 10 37 ?_; simp only [Act.put, za, zb, zc])
   (refine AnyT.tk 11 38 ?_; simp only [Act.put, za, zb, zc])
   by_cases hne : p0 = q0
   rotate_left
   ·have hq : (p0 == q0) = false := beq_eq_false_iff_ne.2 hne
    have hq2 : (p0 != q0) = true := by simp [hne]
    have HFF := Lib.hid (HANS.out.trans (same_f (fun e => HNE.out (fun e => hne (congrArg (fun X : TySlot => X.1) e)) (congrArg (fun X : TyBtree => X.2) e))))
    clear hne HST HNE
    (refine AnyT.ta 12 39 ?_; simp only [Act.put, za, zb, zc])
    (try rw [hq2])
    (refine AnyT.ta 13 40 ?_; simp only [Act.put, za, zb, zc])
    (refine AnyT.sk 14 41 ?_; simp only [Act.put, za, zb, zc])
    (refine AnyT.sk 15 42 ?_; simp only [Act.put, za, zb, zc])
    (refine AnyT.sk 16 43 ?_; simp only [Act.put, za, zb, zc])
    (refine AnyT.sk 17 44 ?_; simp only [Act.put, za, zb, zc])
    (refine AnyT.sk 18 45 ?_; simp only [Act.put, za, zb, zc])
    (refine AnyT.sk 19 46 ?_; simp only [Act.put, za, zb, zc])
    (refine AnyT.sk 20 47 ?_; simp only [Act.put, za, zb, zc])
    (refine AnyT.sk 21 48 ?_; simp only [Act.put, za, zb, zc])
    (refine AnyT.sk 22 49 ?_; simp only [Act.put, za, zb, zc])
    (refine AnyT.sk 23 50 ?_; simp only [Act.put, za, zb, zc])
    (refine AnyT.sk 24 51 ?_; simp only [Act.put, za, zb, zc])
    (refine AnyT.sk 25 52 ?_; simp only [Act.put, za, zb, zc])
    (refine AnyT.sk 26 53 ?_; simp only [Act.put, za, zb, zc])
    (refine AnyT.sk 27 54 ?_; simp only [Act.put, za, zb, zc])
    (refine AnyT.ta 28 55 ?_; simp only [Act.put, za, zb, zc])
    refine AnyT.done (by kernel_rfl) ?_ _
    clear hHeld
    go_wp2_with fail
    go_ret
    exact ⟨by rw [HFF.out]; rfl, HRd.out.1⟩
   subst hne
   have hq2 : (p0 != p0) = false := by simp
   (refine AnyT.ta 12 39 ?_; simp only [Act.put, za, zb, zc])
   (try rw [hq2])
   (refine AnyT.ta 13 40 ?_; simp only [Act.put, za, zb, zc])
   (refine AnyT.ta 14 41 ?_; simp only [Act.put, za, zb, zc])
   (refine AnyT.tk 15 42 ?_; simp only [Act.put, za, zb, zc])
   (refine AnyT.ta 16 43 ?_; simp only [Act.put, za, zb, zc])
   (refine AnyT.ta 17 44 ?_; simp only [Act.put, za, zb, zc])
   (refine AnyT.ta 18 45 ?_; simp only [Act.put, za, zb, zc])
   refine AnyT.tx 19 46 (.agg s1.toArray) (fun W hS => exec_loadMid _ _ rfl b (off + k * 5 + 1) rfl s1 hS.2.1.2 Tryz.underlying237 rfl HZ.out) ?_
   simp only [Act.put, za, zb, zc]
   (refine AnyT.ta 20 47 ?_; simp only [Act.put, za, zb, zc])
   (refine AnyT.tk 21 48 ?_; simp only [Act.put, za, zb, zc])
   (refine AnyT.ta 22 49 ?_; simp only [Act.put, za, zb, zc])
   (refine AnyT.ta 23 50 ?_; simp only [Act.put, za, zb, zc])
   (refine AnyT.ta 24 51 ?_; simp only [Act.put, za, zb, zc])
   refine AnyT.tx 25 52 (.agg t1.toArray) (fun W hS => exec_loadMid _ _ rfl b' (off' + k * 5 + 1) rfl t1 hS.2.2.2 Tryz.underlying237 rfl HZ'.out) ?_
   simp only [Act.put, za, zb, zc]
   ((refine AnyT.one (i := 26) (by kernel_rfl) rfl (fun K hK => ?_)))
   go_simp
   refine (sSamePage_o p1 q1 s1 t1 lo hi lo' hi' w4 HR.out HR'.out (HRd.out.le 3 rfl) (HRd.out.le 2 rfl) HX.out.2 HX'.out.2).mono ?_
   rintro e5 w5 ⟨rfl, hb5⟩
   go_simp
   have HQ5 := Lib.hid (QS.out _ w5 HQd.out hb5)
   have HRe := Lib.hid (QG.out _ HQ5.out)
   refine hK.out _ _ ⟨⟨(HG.out _ _ _ (HRe.out.get 1 rfl)).2, (HH.out _ _ _ (HRe.out.get 0 rfl)).2⟩, HCF.out _ (rng_below HC.out hb5 (Nat.lt_of_lt_of_le hb2 (HRd.out.le 3 rfl))), HCF'.out _ (rng_below HC'.out hb5 (Nat.lt_of_lt_of_le hb2' (HRd.out.le 2 rfl)))⟩ (fun hHeld => ?_)
   clear hK K hb5 HC HC'
   (try simp only [Act.put, za, zb, zc])
   (refine AnyT.ta 27 54 ?_; simp only [Act.put, za, zb, zc])
   (refine AnyT.ta 28 55 ?_; simp only [Act.put, za, zb, zc])
   refine AnyT.done (by kernel_rfl) ?_ _
   clear hHeld
   by_cases hxy : p1 = q1
   ·have HS2 := Lib.hid (HST.out (by rw [hxy]))
    rw [same_t hxy]
    clear HST HNE hxy
    go_wp2_with fail
    go_roundw
    case rel => exact ⟨k + 1, by omega, by go_num, HS2, HQ5⟩
    case measure => simp [intOf]; omega
   ·have HFF := Lib.hid (HANS.out.trans (same_f (fun e => HNE.out (fun e => hxy (congrArg (fun X : TySlot => X.2) e)) (congrArg (fun X : TyBtree => X.2) e))))
    rw [same_f hxy]
    clear hxy HST HNE
    go_wp2_with fail
    go_ret
    exact ⟨by rw [HFF.out]; rfl, (QG.out _ HQ5.out).1⟩
  ·obtain rfl : k = x1.length := by omega
   have he := take_all htk.out HL1.out
   clear htk HRr
   subst he
   have HT := Lib.hid (HANS.out.trans (same_t rfl))
   go_wp2_with fail
   go_ret
   exact ⟨by rw [HT.out]; rfl, (QG.out _ hq1.out).1⟩
theorem sSameBase_o : SmS shBase 20 := by
 intro X Y vs us lo hi lo' hi' w h h' hhi hhi' hf hf'
 obtain ⟨ANS, hANS⟩ : ∃ b, b = sameB X Y := ⟨_, rfl⟩
 rw [← hANS]
 obtain ⟨X0, X1, X2, x3, x4⟩ := X
 obtain ⟨Y0, Y1, Y2, y3, y4⟩ := Y
 obtain ⟨ft0, ft1, ft2, ft3, ft4⟩ := hf
 obtain ⟨gt0, gt1, gt2, gt3, gt4⟩ := hf'
 have HANS := Lib.hid hANS; clear hANS
 obtain ⟨u0, ru0, eu0, k0, u1, ru1, eu1, k1, u2, ru2, eu2, k2, u3, ru3, eu3, k3, k4⟩ := h
 generalize ru3 = u4 at *
 obtain rfl := (show u3 = [.int .i64 x3] from k3)
 obtain rfl := (show u4 = [.int .i64 x4] from k4)
 have HG := Lib.hid (show ∀ (W : World) (b : Nat) (t : TypeId), Blk W b t vs.toArray → W.rangeAt b 0 u0 ∧ W.rangeAt b 2 u1 ∧ W.rangeAt b 15 u2 ∧ W.cell? ⟨b, 22, none⟩ = some (.int .i64 x3) ∧ W.cell? ⟨b, 23, none⟩ = some (.int .i64 x4) from fun W b t hB => by
  have q := blk_all hB
  obtain ⟨p0, q⟩ := rsp eu0 (shBtree.R_len k0) q
  obtain ⟨p1, q⟩ := rsp eu1 (shCache.R_len k1) q
  obtain ⟨p2, q⟩ := rsp eu2 (shJournal.R_len k2) q
  obtain ⟨p3, q⟩ := rsp eu3 rfl q
  exact ⟨p0, p1, p2, rng_one p3, rng_one q⟩)
 clear eu0 eu1 eu2 eu3
 obtain ⟨v0, rv0, ev0, l0, v1, rv1, ev1, l1, v2, rv2, ev2, l2, v3, rv3, ev3, l3, l4⟩ := h'
 generalize rv3 = v4 at *
 obtain rfl := (show v3 = [.int .i64 y3] from l3)
 obtain rfl := (show v4 = [.int .i64 y4] from l4)
 have HH := Lib.hid (show ∀ (W : World) (b : Nat) (t : TypeId), Blk W b t us.toArray → W.rangeAt b 0 v0 ∧ W.rangeAt b 2 v1 ∧ W.rangeAt b 15 v2 ∧ W.cell? ⟨b, 22, none⟩ = some (.int .i64 y3) ∧ W.cell? ⟨b, 23, none⟩ = some (.int .i64 y4) from fun W b t hB => by
  have q := blk_all hB
  obtain ⟨p0, q⟩ := rsp ev0 (shBtree.R_len l0) q
  obtain ⟨p1, q⟩ := rsp ev1 (shCache.R_len l1) q
  obtain ⟨p2, q⟩ := rsp ev2 (shJournal.R_len l2) q
  obtain ⟨p3, q⟩ := rsp ev3 rfl q
  exact ⟨p0, p1, p2, rng_one p3, rng_one q⟩)
 clear ev0 ev1 ev2 ev3
 have R0 := (((((((((Stand.nil w).ad shBtree.R u0 X0 hhi k0 shBtree.R_keep).ad shCache.R u1 X1 hhi k1 shCache.R_keep).ad shJournal.R u2 X2 hhi k2 shJournal.R_keep).ad shBtree.R v0 Y0 hhi' l0 shBtree.R_keep).ad shCache.R v1 Y1 hhi' l1 shCache.R_keep).ad shJournal.R v2 Y2 hhi' l2 shJournal.R_keep).box 89 vs.toArray).box 89 us.toArray)
 rw [heap_alloc_size1] at R0
 have HR0 := Lib.hid R0
 have HZ0 := slH sizeIBtree k0
 have HY0 := slH sizeIBtree l0
 have HZ1 := slH sizeICache k1
 have HY1 := slH sizeICache l1
 have HZ2 := slH sizeIJournal k2
 have HY2 := slH sizeIJournal l2
 clear R0 k0 l0 k1 l1 k2 l2
 go_enter Tryz.func20, Tryz.ntmps20
 go_wp2_with (first | fail | (refine wlg w.heap.size 0 u0 (HG.out _ _ _ (HR0.out.get 1 rfl)).1 Tryz.underlying77 HZ0.out ?_) | (refine wlg (w.heap.size + 1) 0 v0 (HH.out _ _ _ (HR0.out.get 0 rfl)).1 Tryz.underlying77 HY0.out ?_))
 refine (sSameBtree_o X0 Y0 u0 v0 lo hi lo' hi' _ (HR0.out.get 7 rfl) (HR0.out.get 4 rfl) (HR0.out.le 7 rfl) (HR0.out.le 4 rfl) ft0 gt0).mono ?_
 rintro e0 w0 ⟨rfl, hb0⟩
 have HR1 := Lib.hid (HR0.out.below hb0)
 clear hb0 HR0  
 by_cases hne : X0 = Y0
 rotate_left
 ·rw [same_f hne]
  have HF := nf (fun X : TyBase => X.1) HANS hne
  clear hne
  go_wp2_with fail
  go_ret
  exact ⟨by rw [HF.out]; rfl, HR1.out.1⟩
 rw [same_t hne]
 subst hne
 go_wp2_with (first | fail | (refine wlg w.heap.size 2 u1 (HG.out _ _ _ (HR1.out.get 1 rfl)).2.1 Tryz.underlying85 HZ1.out ?_) | (refine wlg (w.heap.size + 1) 2 v1 (HH.out _ _ _ (HR1.out.get 0 rfl)).2.1 Tryz.underlying85 HY1.out ?_))
 refine (l20SameCache_o X1 Y1 u1 v1 lo hi lo' hi' _ (HR1.out.get 6 rfl) (HR1.out.get 3 rfl) (HR1.out.le 6 rfl) (HR1.out.le 3 rfl) ft1 gt1).mono ?_
 rintro e1 w1 ⟨rfl, hb1⟩
 have HR2 := Lib.hid (HR1.out.below hb1)
 clear hb1 HR1  
 by_cases hne : X1 = Y1
 rotate_left
 ·rw [same_f hne]
  have HF := nf (fun X : TyBase => X.2.1) HANS hne
  clear hne
  go_wp2_with fail
  go_ret
  exact ⟨by rw [HF.out]; rfl, HR2.out.1⟩
 rw [same_t hne]
 subst hne
 go_wp2_with (first | fail | (refine wlg w.heap.size 15 u2 (HG.out _ _ _ (HR2.out.get 1 rfl)).2.2.1 Tryz.underlying87 HZ2.out ?_) | (refine wlg (w.heap.size + 1) 15 v2 (HH.out _ _ _ (HR2.out.get 0 rfl)).2.2.1 Tryz.underlying87 HY2.out ?_))
 refine (l20SameJournal_o X2 Y2 u2 v2 lo hi lo' hi' _ (HR2.out.get 5 rfl) (HR2.out.get 2 rfl) (HR2.out.le 5 rfl) (HR2.out.le 2 rfl) ft2 gt2).mono ?_
 rintro e2 w2 ⟨rfl, hb2⟩
 have HR3 := Lib.hid (HR2.out.below hb2)
 clear hb2 HR2  
 by_cases hne : X2 = Y2
 rotate_left
 ·rw [same_f hne]
  have HF := nf (fun X : TyBase => X.2.2.1) HANS hne
  clear hne
  go_wp2_with fail
  go_ret
  exact ⟨by rw [HF.out]; rfl, HR3.out.1⟩
 rw [same_t hne]
 subst hne
 have f3 := (HG.out _ _ _ (HR3.out.get 1 rfl)).2.2.2.1
 have g3 := (HH.out _ _ _ (HR3.out.get 0 rfl)).2.2.2.1
 have f4 := (HG.out _ _ _ (HR3.out.get 1 rfl)).2.2.2.2
 have g4 := (HH.out _ _ _ (HR3.out.get 0 rfl)).2.2.2.2
 by_cases hne : x3 = y3
 rotate_left
 ·have HF := nf (fun X : TyBase => X.2.2.2.1) HANS hne
  have hq : (x3 == y3) = false := beq_eq_false_iff_ne.2 hne
  clear hne
  go_wp2_with fail
  go_ret
  exact ⟨by rw [HF.out]; rfl, HR3.out.1⟩
 subst hne
 by_cases hne : x4 = y4
 rotate_left
 ·have HF := nf (fun X : TyBase => X.2.2.2.2) HANS hne
  have hq : (x4 == y4) = false := beq_eq_false_iff_ne.2 hne
  clear hne
  go_wp2_with fail
  go_ret
  exact ⟨by rw [HF.out]; rfl, HR3.out.1⟩
 subst hne
 have HT := Lib.hid (HANS.out.trans (same_t rfl))
 go_wp2_with fail
 go_ret
 exact ⟨by rw [HT.out]; rfl, HR3.out.1⟩
end Go.Proofs.YtgnmollbnopigaaGreat
