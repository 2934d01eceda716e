/- Comparisons, both sides. Printed by gen_same2.py. -/
import Derived.Test.YtgnmollbnopigaaGreatJoinSSBl
import Derived.Test.YtgnmollbnopigaaGreatJoinSSBk
import Derived.Test.YtgnmollbnopigaaGreatJoinSSBu
import Derived.Test.YtgnmollbnopigaaGreatJoinSSBg
namespace Go.Proofs.YtgnmollbnopigaaGreat
open Go.RowKit
set_option maxHeartbeats 4000000 in
set_option maxRecDepth 100000 in
theorem sSameLocals_o : SmS shLocals 224 := by
 intro X Y vs us lo hi lo' hi' w h h' hhi hhi' hf hf'
 obtain ⟨ANS, hANS⟩ : ∃ b, b = sameB X Y := ⟨_, rfl⟩
 rw [← hANS]
 obtain ⟨x0, x1, x2, x3⟩ := X
 obtain ⟨y0, y1, y2, y3⟩ := Y
 obtain ⟨ft0, ft1, ft2, ft3⟩ := hf
 obtain ⟨gt0, gt1, gt2, gt3⟩ := hf'
 have HANS := Lib.hid hANS; clear hANS
 obtain ⟨u0, ru0, eu0, k0, u1, ru1, eu1, k1, u2, ru2, eu2, k2, k3⟩ := h
 generalize ru2 = u3 at *
 obtain rfl := (show u0 = [.int .i64 x0] from k0)
 have qk1 := k1; obtain ⟨A1, c1, rfl, _⟩ := qk1
 have qk2 := k2; obtain ⟨A2, c2, rfl, _⟩ := qk2
 have qk3 := k3; obtain ⟨A3, c3, rfl, _⟩ := qk3
 have HG := Lib.hid (show ∀ (W : World) (b : Nat) (t : TypeId), Blk W b t vs.toArray → W.cell? ⟨b, 0, none⟩ = some (.int .i64 x0) ∧ W.cell? ⟨b, 1, none⟩ = some (.slice A1 x1.length c1) ∧ W.cell? ⟨b, 2, none⟩ = some (.slice A2 x2.length c2) ∧ W.cell? ⟨b, 3, none⟩ = some (.slice A3 x3.length c3) from fun W b t hB => by
  have q := blk_all hB
  obtain ⟨p0, q⟩ := rsp eu0 rfl q
  obtain ⟨p1, q⟩ := rsp eu1 rfl q
  obtain ⟨p2, q⟩ := rsp eu2 rfl q
  exact ⟨rng_one p0, rng_one p1, rng_one p2, rng_one q⟩)
 clear eu0 eu1 eu2
 obtain ⟨v0, rv0, ev0, l0, v1, rv1, ev1, l1, v2, rv2, ev2, l2, l3⟩ := h'
 generalize rv2 = v3 at *
 obtain rfl := (show v0 = [.int .i64 y0] from l0)
 have ql1 := l1; obtain ⟨B1, d1, rfl, _⟩ := ql1
 have ql2 := l2; obtain ⟨B2, d2, rfl, _⟩ := ql2
 have ql3 := l3; obtain ⟨B3, d3, rfl, _⟩ := ql3
 have HH := Lib.hid (show ∀ (W : World) (b : Nat) (t : TypeId), Blk W b t us.toArray → W.cell? ⟨b, 0, none⟩ = some (.int .i64 y0) ∧ W.cell? ⟨b, 1, none⟩ = some (.slice B1 y1.length d1) ∧ W.cell? ⟨b, 2, none⟩ = some (.slice B2 y2.length d2) ∧ W.cell? ⟨b, 3, none⟩ = some (.slice B3 y3.length d3) from fun W b t hB => by
  have q := blk_all hB
  obtain ⟨p0, q⟩ := rsp ev0 rfl q
  obtain ⟨p1, q⟩ := rsp ev1 rfl q
  obtain ⟨p2, q⟩ := rsp ev2 rfl q
  exact ⟨rng_one p0, rng_one p1, rng_one p2, rng_one q⟩)
 clear ev0 ev1 ev2
 have R0 := (((((((((Stand.nil w).ad (Sh.row 359 shBind).R [.slice A1 x1.length c1] x1 hhi k1 (Sh.row 359 shBind).R_keep).ad (Sh.row 353 shCell).R [.slice A2 x2.length c2] x2 hhi k2 (Sh.row 353 shCell).R_keep).ad (Sh.row 356 shLevel).R [.slice A3 x3.length c3] x3 hhi k3 (Sh.row 356 shLevel).R_keep).ad (Sh.row 359 shBind).R [.slice B1 y1.length d1] y1 hhi' l1 (Sh.row 359 shBind).R_keep).ad (Sh.row 353 shCell).R [.slice B2 y2.length d2] y2 hhi' l2 (Sh.row 353 shCell).R_keep).ad (Sh.row 356 shLevel).R [.slice B3 y3.length d3] y3 hhi' l3 (Sh.row 356 shLevel).R_keep).box 150 vs.toArray).box 150 us.toArray)
 rw [heap_alloc_size1] at R0
 have HR0 := Lib.hid R0
 clear R0 k1 l1 k2 l2 k3 l3
 go_enter Tryz.func224, Tryz.ntmps224
 have f0 := (HG.out _ _ _ (HR0.out.get 1 rfl)).1
 have g0 := (HH.out _ _ _ (HR0.out.get 0 rfl)).1
 have f1 := (HG.out _ _ _ (HR0.out.get 1 rfl)).2.1
 have g1 := (HH.out _ _ _ (HR0.out.get 0 rfl)).2.1
 by_cases hne : x0 = y0
 rotate_left
 ·have HF := nf (fun X : TyLocals => X.1) HANS hne
  have hq : (x0 == y0) = false := beq_eq_false_iff_ne.2 hne
  have hq2 : (x0 != y0) = true := by simp [hq, bne]
  clear hne
  go_wp2_with fail
  go_ret
  exact ⟨by rw [HF.out]; rfl, HR0.out.1⟩
 subst hne
 go_wp2_with fail
 refine (l09SameBinds_r A1 B1 c1 d1 x1 y1 lo hi lo' hi' _ (HR0.out.get 7 rfl) (HR0.out.get 4 rfl) (HR0.out.le 7 rfl) (HR0.out.le 4 rfl) ft1.1 gt1.1).mono ?_
 rintro e1 w1 ⟨rfl, hb1⟩
 have HR1 := Lib.hid (HR0.out.below hb1)
 clear hb1 HR0 f0 g0 f1 g1
 by_cases hne : x1 = y1
 rotate_left
 ·rw [same_f hne]
  have HF := nf (fun X : TyLocals => X.2.1) HANS hne
  clear hne
  go_wp2_with fail
  go_ret
  exact ⟨by rw [HF.out]; rfl, HR1.out.1⟩
 rw [same_t hne]
 subst hne
 have f2 := (HG.out _ _ _ (HR1.out.get 1 rfl)).2.2.1
 have g2 := (HH.out _ _ _ (HR1.out.get 0 rfl)).2.2.1
 have f3 := (HG.out _ _ _ (HR1.out.get 1 rfl)).2.2.2
 have g3 := (HH.out _ _ _ (HR1.out.get 0 rfl)).2.2.2
 by_cases hne : x2.length = y2.length
 rotate_left
 ·have HF := nf (fun X : TyLocals => (X.2.2.1).length) HANS hne
  have n1 : ((x2.length : Int) == (y2.length : Int)) = false := by rw [beq_eq_false_iff_ne]; omega
  have n2 : ((x2.length : Int) != (y2.length : Int)) = true := by rw [bne_iff_ne]; omega
  clear hne
  go_wp2_with fail
  go_ret
  exact ⟨by rw [HF.out]; rfl, HR1.out.1⟩
 have HL2 := Lib.hid hne
 have m2 : ((x2.length : Int) == (y2.length : Int)) = true := by rw [beq_iff_eq]; omega
 have n2 : ((x2.length : Int) != (y2.length : Int)) = false := by rw [hne]; simp
 clear hne
 by_cases hne : x3.length = y3.length
 rotate_left
 ·have HF := nf (fun X : TyLocals => (X.2.2.2).length) HANS hne
  have n1 : ((x3.length : Int) == (y3.length : Int)) = false := by rw [beq_eq_false_iff_ne]; omega
  have n2 : ((x3.length : Int) != (y3.length : Int)) = true := by rw [bne_iff_ne]; omega
  clear hne
  go_wp2_with fail
  go_ret
  exact ⟨by rw [HF.out]; rfl, HR1.out.1⟩
 have HL3 := Lib.hid hne
 have m3 : ((x3.length : Int) == (y3.length : Int)) = true := by rw [beq_iff_eq]; omega
 have n3 : ((x3.length : Int) != (y3.length : Int)) = false := by rw [hne]; simp
 clear hne
 go_wp2_with fail
 obtain ⟨Q, q0, qs, qg⟩ := HR1.out.veilQ
 have HQ0 := Lib.hid q0; have QS := Lib.hid qs; have QG := Lib.hid qg
 clear q0 qs qg HR1 f2 g2 f3 g3 m2 n2 m3 n3
 have hn2 := ft2.1
 go_loopw [5] (fun i wr => ∃ k : Nat, k ≤ x2.length ∧ i = .int .i64 k ∧ Hid (x2.take k = y2.take k) ∧ Hid (Q wr)) (fun i _ => x2.length - (intOf i).toNat)
 case atStart => exact ⟨0, Nat.zero_le _, rfl, Lib.hid rfl, HQ0⟩
 case round =>
  obtain ⟨k, hk, rfl, htk, hq2⟩ := hrel
  have HRr := Lib.hid (QG.out _ hq2.out)
  have f2 := (HG.out _ _ _ (HRr.out.get 1 rfl)).2.2.1
  have g2 := (HH.out _ _ _ (HRr.out.get 0 rfl)).2.2.1
  by_cases hlt : k < x2.length
  ·have hly : k < y2.length := by have := HL2.out; omega
   obtain ⟨b, off, rfl, hb1, hb2, us, hc, hX⟩ := row_at (HRr.out.get 6 rfl) hlt
   obtain ⟨b', off', rfl, hb1', hb2', us', hc', hX'⟩ := row_at (HRr.out.get 3 rfl) hly
   have HST := Lib.hid (fun he => take_step (d := shCell.d) htk.out hlt HL2.out he)
   have HNE := Lib.hid (fun he => ne_at (xs := x2) (ys := y2) (d := shCell.d) (k := k) he)
   have HX := Lib.hid (ft2.2 _ (getD_in (d := shCell.d) hlt)); have HX' := Lib.hid (gt2.2 _ (getD_in (d := shCell.d) hly))
   generalize x2.getD k shCell.d = EX at *
   generalize y2.getD k shCell.d = EY at *
   obtain ⟨p0, p1⟩ := EX
   obtain ⟨q0, q1⟩ := EY
   have hX := shCell.R_below hX (below_drewN' wr 1) (HRr.out.le 6 rfl); have hX' := shCell.R_below hX' (below_drewN' wr 1) (HRr.out.le 3 rfl)
   obtain ⟨s0, s1, es0, k0, k1⟩ := hX
   obtain rfl := (show s0 = [.int .i64 p0] from k0)
   obtain ⟨t0, t1, et0, l0, l1⟩ := hX'
   obtain rfl := (show t0 = [.int .i64 q0] from l0)
   have HC := Lib.hid (show wr.drew.rangeAt b (off + k * 2) us from rng_of hc); have HC' := Lib.hid (show wr.drew.rangeAt b' (off' + k * 2) us' from rng_of hc')
   have HCF := Lib.hid (show ∀ W : World, W.rangeAt b (off + k * 2) us → W.cell? ⟨b, off + k * 2, none⟩ = some (.int .i64 p0) ∧ W.rangeAt b (off + k * 2 + 1) s1 from fun W q => by
    rw [es0] at q; obtain ⟨q0, q⟩ := rng_split rfl q; exact ⟨rng_one q0, q⟩)
   have HCF' := Lib.hid (show ∀ W : World, W.rangeAt b' (off' + k * 2) us' → W.cell? ⟨b', off' + k * 2, none⟩ = some (.int .i64 q0) ∧ W.rangeAt b' (off' + k * 2 + 1) t1 from fun W q => by
    rw [et0] at q; obtain ⟨q0, q⟩ := rng_split rfl q; exact ⟨rng_one q0, q⟩)
   have HR := Lib.hid (show shTree.R wr.drew lo hi s1 p1 from k1); have HR' := Lib.hid (show shTree.R wr.drew lo' hi' t1 q1 from l1)
   have HZ := slH sizeITree k1; have HZ' := slH sizeITree l1
   have HQd := Lib.hid (QS.out _ wr.drew hq2.out (below_drewN' wr 1))
   have HRd := Lib.hid (QG.out _ HQd.out)
   have HF1 := Lib.hid (show wr.drew.cell? _ = _ from (HG.out _ _ _ (HRd.out.get 1 rfl)).2.2.1); have HF2 := Lib.hid (show wr.drew.cell? _ = _ from (HH.out _ _ _ (HRd.out.get 0 rfl)).2.2.1)
   clear hc hc' htk HRr es0 et0 k0 l0 k1 l1
   go_upto_region 6 with fail
   clear f2 g2
   refine AnyT.region (fun _ => false) (fun W => (W.cell? ⟨w.heap.size, 2, none⟩ = some (.slice (some ⟨b, off, none⟩) x2.length c2) ∧ W.cell? ⟨w.heap.size + 1, 2, none⟩ = some (.slice (some ⟨b', off', none⟩) y2.length d2)) ∧ (W.cell? ⟨b, off + k * 2, none⟩ = some (.int .i64 p0) ∧ W.rangeAt b (off + k * 2 + 1) s1) ∧ W.cell? ⟨b', off' + k * 2, none⟩ = some (.int .i64 q0) ∧ W.rangeAt b' (off' + k * 2 + 1) t1) (by kernel_rfl) ⟨⟨HF1.out, HF2.out⟩, HCF.out _ HC.out, HCF'.out _ HC'.out⟩ (fun hHeld => ?_)
   generalize wr.drew = w4 at *
   (refine AnyT.ta 0 45 ?_; simp only [Act.put, za, zb, zc])
   (refine AnyT.tk 1 46 ?_; simp only [Act.put, za, zb, zc])
   (refine AnyT.ta 2 47 ?_; simp only [Act.put, za, zb, zc])
   (refine AnyT.ta 3 48 ?_; simp only [Act.put, za, zb, zc])
   (refine AnyT.ta 4 49 ?_; simp only [Act.put, za, zb, zc])
   (refine AnyT.tk 5 50 ?_; simp only [Act.put, za, zb, zc])
   (refine AnyT.ta 6 51 ?_; simp only [Act.put, za, zb, zc])
   (refine AnyT.tk 7 52 ?_; simp only [Act.put, za, zb, zc])
   (refine AnyT.ta 8 53 ?_; simp only [Act.put, za, zb, zc])
   (refine AnyT.ta 9 54 ?_; simp only [Act.put, za, zb, zc])
   (refine AnyT.ta 10 55 ?_; simp only [Act.put, za, zb, zc])
   (refine AnyT.tk 11 56 ?_; simp only [Act.put, za, zb, zc])
   by_cases hne : p0 = q0
   rotate_left
   ·have hq : (p0 == q0) = false := beq_eq_false_iff_ne.2 hne
    have hq2 : (p0 != q0) = true := by simp [hne]
    have HFF := Lib.hid (HANS.out.trans (same_f (fun e => HNE.out (fun e => hne (congrArg (fun X : TyCell => X.1) e)) (congrArg (fun X : TyLocals => X.2.2.1) e))))
    clear hne HST HNE
    (refine AnyT.ta 12 57 ?_; simp only [Act.put, za, zb, zc])
    (try rw [hq2])
    (refine AnyT.ta 13 58 ?_; simp only [Act.put, za, zb, zc])
    (refine AnyT.sk 14 59 ?_; simp only [Act.put, za, zb, zc])
    (refine AnyT.sk 15 60 ?_; simp only [Act.put, za, zb, zc])
    (refine AnyT.sk 16 61 ?_; simp only [Act.put, za, zb, zc])
    (refine AnyT.sk 17 62 ?_; simp only [Act.put, za, zb, zc])
    (refine AnyT.sk 18 63 ?_; simp only [Act.put, za, zb, zc])
    (refine AnyT.sk 19 64 ?_; simp only [Act.put, za, zb, zc])
    (refine AnyT.sk 20 65 ?_; simp only [Act.put, za, zb, zc])
    (refine AnyT.sk 21 66 ?_; simp only [Act.put, za, zb, zc])
    (refine AnyT.sk 22 67 ?_; simp only [Act.put, za, zb, zc])
    (refine AnyT.sk 23 68 ?_; simp only [Act.put, za, zb, zc])
    (refine AnyT.sk 24 69 ?_; simp only [Act.put, za, zb, zc])
    (refine AnyT.sk 25 70 ?_; simp only [Act.put, za, zb, zc])
    (refine AnyT.sk 26 71 ?_; simp only [Act.put, za, zb, zc])
    (refine AnyT.sk 27 72 ?_; simp only [Act.put, za, zb, zc])
    (refine AnyT.ta 28 73 ?_; simp only [Act.put, za, zb, zc])
    refine AnyT.done (by kernel_rfl) ?_ _
    clear hHeld
    go_wp2_with fail
    go_ret
    exact ⟨by rw [HFF.out]; rfl, HRd.out.1⟩
   subst hne
   have hq2 : (p0 != p0) = false := by simp
   (refine AnyT.ta 12 57 ?_; simp only [Act.put, za, zb, zc])
   (try rw [hq2])
   (refine AnyT.ta 13 58 ?_; simp only [Act.put, za, zb, zc])
   (refine AnyT.ta 14 59 ?_; simp only [Act.put, za, zb, zc])
   (refine AnyT.tk 15 60 ?_; simp only [Act.put, za, zb, zc])
   (refine AnyT.ta 16 61 ?_; simp only [Act.put, za, zb, zc])
   (refine AnyT.ta 17 62 ?_; simp only [Act.put, za, zb, zc])
   (refine AnyT.ta 18 63 ?_; simp only [Act.put, za, zb, zc])
   refine AnyT.tx 19 64 (.agg s1.toArray) (fun W hS => exec_loadMid _ _ rfl b (off + k * 2 + 1) rfl s1 hS.2.1.2 Tryz.underlying66 rfl HZ.out) ?_
   simp only [Act.put, za, zb, zc]
   (refine AnyT.ta 20 65 ?_; simp only [Act.put, za, zb, zc])
   (refine AnyT.tk 21 66 ?_; simp only [Act.put, za, zb, zc])
   (refine AnyT.ta 22 67 ?_; simp only [Act.put, za, zb, zc])
   (refine AnyT.ta 23 68 ?_; simp only [Act.put, za, zb, zc])
   (refine AnyT.ta 24 69 ?_; simp only [Act.put, za, zb, zc])
   refine AnyT.tx 25 70 (.agg t1.toArray) (fun W hS => exec_loadMid _ _ rfl b' (off' + k * 2 + 1) rfl t1 hS.2.2.2 Tryz.underlying66 rfl HZ'.out) ?_
   simp only [Act.put, za, zb, zc]
   ((refine AnyT.one (i := 26) (by kernel_rfl) rfl (fun K hK => ?_)))
   go_simp
   refine (sSameTree_o p1 q1 s1 t1 lo hi lo' hi' w4 HR.out HR'.out (HRd.out.le 6 rfl) (HRd.out.le 3 rfl) HX.out.2 HX'.out.2).mono ?_
   rintro e5 w5 ⟨rfl, hb5⟩
   go_simp
   have HQ5 := Lib.hid (QS.out _ w5 HQd.out hb5)
   have HRe := Lib.hid (QG.out _ HQ5.out)
   refine hK.out _ _ ⟨⟨(HG.out _ _ _ (HRe.out.get 1 rfl)).2.2.1, (HH.out _ _ _ (HRe.out.get 0 rfl)).2.2.1⟩, HCF.out _ (rng_below HC.out hb5 (Nat.lt_of_lt_of_le hb2 (HRd.out.le 6 rfl))), HCF'.out _ (rng_below HC'.out hb5 (Nat.lt_of_lt_of_le hb2' (HRd.out.le 3 rfl)))⟩ (fun hHeld => ?_)
   clear hK K hb5 HC HC'
   (try simp only [Act.put, za, zb, zc])
   (refine AnyT.ta 27 72 ?_; simp only [Act.put, za, zb, zc])
   (refine AnyT.ta 28 73 ?_; simp only [Act.put, za, zb, zc])
   refine AnyT.done (by kernel_rfl) ?_ _
   clear hHeld
   by_cases hxy : p1 = q1
   ·have HS2 := Lib.hid (HST.out (by rw [hxy]))
    rw [same_t hxy]
    clear HST HNE hxy
    go_wp2_with fail
    go_roundw
    case rel => exact ⟨k + 1, by omega, by go_num, HS2, HQ5⟩
    case measure => simp [intOf]; omega
   ·have HFF := Lib.hid (HANS.out.trans (same_f (fun e => HNE.out (fun e => hxy (congrArg (fun X : TyCell => X.2) e)) (congrArg (fun X : TyLocals => X.2.2.1) e))))
    rw [same_f hxy]
    clear hxy HST HNE
    go_wp2_with fail
    go_ret
    exact ⟨by rw [HFF.out]; rfl, (QG.out _ HQ5.out).1⟩
  ·obtain rfl : k = x2.length := by omega
   have he := take_all htk.out HL2.out
   clear htk HRr
   subst he
   go_wp2_with fail
   have hn3 := ft3.1
   go_loopw [6] (fun i wr => ∃ k : Nat, k ≤ x3.length ∧ i = .int .i64 k ∧ Hid (x3.take k = y3.take k) ∧ Hid (Q wr)) (fun i _ => x3.length - (intOf i).toNat)
   case atStart => exact ⟨0, Nat.zero_le _, rfl, Lib.hid rfl, hq2⟩
   case round =>
    obtain ⟨k, hk, rfl, htk, hq3⟩ := hrel
    have HRr := Lib.hid (QG.out _ hq3.out)
    have f3 := (HG.out _ _ _ (HRr.out.get 1 rfl)).2.2.2
    have g3 := (HH.out _ _ _ (HRr.out.get 0 rfl)).2.2.2
    by_cases hlt : k < x3.length
    ·have hly : k < y3.length := by have := HL3.out; omega
     obtain ⟨b, off, rfl, hb1, hb2, us, hc, hX⟩ := row_at (HRr.out.get 5 rfl) hlt
     obtain ⟨b', off', rfl, hb1', hb2', us', hc', hX'⟩ := row_at (HRr.out.get 2 rfl) hly
     have HST := Lib.hid (fun he => take_step (d := shLevel.d) htk.out hlt HL3.out he)
     have HNE := Lib.hid (fun he => ne_at (xs := x3) (ys := y3) (d := shLevel.d) (k := k) he)
     have HX := Lib.hid (ft3.2 _ (getD_in (d := shLevel.d) hlt)); have HX' := Lib.hid (gt3.2 _ (getD_in (d := shLevel.d) hly))
     generalize x3.getD k shLevel.d = EX at *
     generalize y3.getD k shLevel.d = EY at *
     have hX := shLevel.R_below hX (below_drewN' wr 1) (HRr.out.le 5 rfl); have hX' := shLevel.R_below hX' (below_drewN' wr 1) (HRr.out.le 2 rfl)
     have k1 := hX; obtain ⟨M1, m1, rfl, _⟩ := hX
     have l1 := hX'; obtain ⟨N1, n1, rfl, _⟩ := hX'
     have HC := Lib.hid (show wr.drew.rangeAt b (off + k) [.slice M1 EX.length m1] from rng_of1 hc); have HC' := Lib.hid (show wr.drew.rangeAt b' (off' + k) [.slice N1 EY.length n1] from rng_of1 hc')
     have HR := Lib.hid (show shLevel.R wr.drew lo hi [.slice M1 EX.length m1] EX from k1); have HR' := Lib.hid (show shLevel.R wr.drew lo' hi' [.slice N1 EY.length n1] EY from l1)
     have HQd := Lib.hid (QS.out _ wr.drew hq3.out (below_drewN' wr 1))
     have HRd := Lib.hid (QG.out _ HQd.out)
     have HF1 := Lib.hid (show wr.drew.cell? _ = _ from (HG.out _ _ _ (HRd.out.get 1 rfl)).2.2.2); have HF2 := Lib.hid (show wr.drew.cell? _ = _ from (HH.out _ _ _ (HRd.out.get 0 rfl)).2.2.2)
     clear hc hc' htk HRr k1 l1
     go_upto_region 11 with fail
     clear f3 g3
     refine AnyT.region (fun _ => false) (fun W => (W.cell? ⟨w.heap.size, 3, none⟩ = some (.slice (some ⟨b, off, none⟩) x3.length c3) ∧ W.cell? ⟨w.heap.size + 1, 3, none⟩ = some (.slice (some ⟨b', off', none⟩) y3.length d3)) ∧ W.cell? ⟨b, off + k, none⟩ = some (.slice M1 EX.length m1) ∧ W.cell? ⟨b', off' + k, none⟩ = some (.slice N1 EY.length n1)) (by kernel_rfl) ⟨⟨HF1.out, HF2.out⟩, rng_one HC.out, rng_one HC'.out⟩ (fun hHeld => ?_)
     generalize wr.drew = w4 at *
     (refine AnyT.ta 0 81 ?_; simp only [Act.put, za, zb, zc])
     (refine AnyT.tk 1 82 ?_; simp only [Act.put, za, zb, zc])
     (refine AnyT.ta 2 83 ?_; simp only [Act.put, za, zb, zc])
     (refine AnyT.ta 3 84 ?_; simp only [Act.put, za, zb, zc])
     (refine AnyT.ta 4 85 ?_; simp only [Act.put, za, zb, zc])
     (refine AnyT.tk 5 86 ?_; simp only [Act.put, za, zb, zc])
     (refine AnyT.ta 6 87 ?_; simp only [Act.put, za, zb, zc])
     (refine AnyT.tk 7 88 ?_; simp only [Act.put, za, zb, zc])
     (refine AnyT.ta 8 89 ?_; simp only [Act.put, za, zb, zc])
     (refine AnyT.ta 9 90 ?_; simp only [Act.put, za, zb, zc])
     (refine AnyT.ta 10 91 ?_; simp only [Act.put, za, zb, zc])
     (refine AnyT.tk 11 92 ?_; simp only [Act.put, za, zb, zc])
     ((refine AnyT.one (i := 12) (by kernel_rfl) rfl (fun K hK => ?_)))
     go_simp
     refine (l09SameBinds_r M1 N1 m1 n1 EX EY lo hi lo' hi' w4 HR.out HR'.out (HRd.out.le 5 rfl) (HRd.out.le 2 rfl) HX.out.1 HX'.out.1).mono ?_
     rintro e5 w5 ⟨rfl, hb5⟩
     go_simp
     have HQ5 := Lib.hid (QS.out _ w5 HQd.out hb5)
     have HRe := Lib.hid (QG.out _ HQ5.out)
     refine hK.out _ _ ⟨⟨(HG.out _ _ _ (HRe.out.get 1 rfl)).2.2.2, (HH.out _ _ _ (HRe.out.get 0 rfl)).2.2.2⟩, rng_one (rng_below HC.out hb5 (Nat.lt_of_lt_of_le hb2 (HRd.out.le 5 rfl))), rng_one (rng_below HC'.out hb5 (Nat.lt_of_lt_of_le hb2' (HRd.out.le 2 rfl)))⟩ (fun hHeld => ?_)
     clear hK K hb5 HC HC'
     (try simp only [Act.put, za, zb, zc])
     (refine AnyT.ta 13 94 ?_; simp only [Act.put, za, zb, zc])
     refine AnyT.done (by kernel_rfl) ?_ _
     clear hHeld
     by_cases hxy : EX = EY
     ·have HS2 := Lib.hid (HST.out hxy)
      rw [same_t hxy]
      clear HST HNE hxy
      go_wp2_with fail
      go_roundw
      case rel => exact ⟨k + 1, by omega, by go_num, HS2, HQ5⟩
      case measure => simp [intOf]; omega
     ·have HFF := Lib.hid (HANS.out.trans (same_f (fun e => HNE.out hxy (congrArg (fun X : TyLocals => X.2.2.2) e))))
      rw [same_f hxy]
      clear hxy HST HNE
      go_wp2_with fail
      go_ret
      exact ⟨by rw [HFF.out]; rfl, (QG.out _ HQ5.out).1⟩
    ·obtain rfl : k = x3.length := by omega
     have he := take_all htk.out HL3.out
     clear htk HRr
     subst he
     have HT := Lib.hid (HANS.out.trans (same_t rfl))
     go_wp2_with fail
     go_ret
     exact ⟨by rw [HT.out]; rfl, (QG.out _ hq3.out).1⟩
end Go.Proofs.YtgnmollbnopigaaGreat
