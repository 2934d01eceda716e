/- Comparisons, both sides. Printed by gen_same2.py. -/
import Derived.Test.YtgnmollbnopigaaGreatJoinSTBb
import Derived.Test.YtgnmollbnopigaaGreatJoinSTAv
set_option maxHeartbeats 16000000
set_option maxRecDepth 100000
namespace Go.Proofs.YtgnmollbnopigaaGreat
open Go.RowKit
theorem sSameEvents : SmR 247 shEvent 62 := by
 intro A B c d xs ys lo hi lo' hi' w h h' hhi hhi' hf hf'
 obtain ⟨ANS, hANS⟩ : ∃ b, b = sameB xs ys := ⟨_, rfl⟩
 rw [← hANS]
 have HANS := Lib.hid hANS; clear hANS
 have hn := hf.1
 by_cases hl : xs.length = ys.length
 ·have HA := Lib.hid h; have HA' := Lib.hid h'; have HL := Lib.hid hl; have HF := Lib.hid hf.2; have HF' := Lib.hid hf'.2
  rw [← hl] at HA' ⊢
  clear h h' hl hf hf'
  go_enter Tryz.func62, Tryz.ntmps62
  go_wp2_with fail
  go_loopw [5] (fun i wr => ∃ k : Nat, k ≤ xs.length ∧ i = .int .i64 k ∧ Hid (xs.take k = ys.take k) ∧ Below w.heap.size w wr) (fun i _ => xs.length - (intOf i).toNat)
  case atStart => exact ⟨0, Nat.zero_le _, rfl, Lib.hid rfl, Below.refl _ _⟩
  case round =>
   obtain ⟨k, hk, rfl, htk, hb⟩ := hrel
   by_cases hlt : k < xs.length
   ·have hly : k < ys.length := by have := HL.out; omega
    obtain ⟨b, off, rfl, hb1, hb2, us, hc, hX⟩ := row_at ((Sh.row 247 shEvent).R_below HA.out hb hhi) hlt
    obtain ⟨b', off', rfl, hb1', hb2', us', hc', hX'⟩ := row_at ((Sh.row 247 shEvent).R_below HA'.out hb hhi') hlt
    have HST := Lib.hid (fun he => take_step (d := shEvent.d) htk.out hlt HL.out he)
    have HNE := Lib.hid (fun he => ne_at (xs := xs) (ys := ys) (d := shEvent.d) (k := k) he)
    have HX := Lib.hid (HF.out _ (getD_in (d := shEvent.d) hlt)); have HX' := Lib.hid (HF'.out _ (getD_in (d := shEvent.d) hly))
    generalize xs.getD k shEvent.d = X at *
    generalize ys.getD k shEvent.d = Y at *
    have hsz := hb.size
    have HR := Lib.hid (show shEvent.R wr.drew lo hi us X from shEvent.R_below hX (below_drewN' wr 1) (by omega)); have HR' := Lib.hid (show shEvent.R wr.drew lo' hi' us' Y from shEvent.R_below hX' (below_drewN' wr 1) (by omega))
    have HC := Lib.hid (show wr.drew.rangeAt b (off + k * 5) us from rng_of hc); have HC' := Lib.hid (show wr.drew.rangeAt b' (off' + k * 5) us' from rng_of hc')
    have HZ := slH sizeIEvent hX; have HZ' := slH sizeIEvent hX'
    have HB := Lib.hid hb.drew
    have hwi : hi ≤ wr.drew.heap.size := (show hi ≤ wr.heap.size by omega)
    have hwi' : hi' ≤ wr.drew.heap.size := (show hi' ≤ wr.heap.size by omega)
    clear hb hX hX' hc hc' htk
    go_upto_region 6 with fail
    refine AnyT.region (fun _ => false) (fun W => W.rangeAt b (off + k * 5) us ∧ W.rangeAt b' (off' + k * 5) us') (by kernel_rfl) ⟨HC.out, HC'.out⟩ (fun hHeld => ?_)
    generalize wr.drew = w4 at *
    (refine AnyT.ta 0 17 ?_; simp only [Act.put, za, zb, zc])
    (refine AnyT.ta 1 18 ?_; simp only [Act.put, za, zb, zc])
    (refine AnyT.ta 2 19 ?_; simp only [Act.put, za, zb, zc])
    refine AnyT.tx 3 20 (.agg us.toArray) (fun W hS => exec_loadMid _ _ rfl b (off + k * 5) rfl us hS.1 Tryz.underlying247 rfl HZ.out) ?_
    simp only [Act.put, za, zb, zc]
    (refine AnyT.ta 4 21 ?_; simp only [Act.put, za, zb, zc])
    (refine AnyT.ta 5 22 ?_; simp only [Act.put, za, zb, zc])
    (refine AnyT.ta 6 23 ?_; simp only [Act.put, za, zb, zc])
    refine AnyT.tx 7 24 (.agg us'.toArray) (fun W hS => exec_loadMid _ _ rfl b' (off' + k * 5) rfl us' hS.2 Tryz.underlying247 rfl HZ'.out) ?_
    simp only [Act.put, za, zb, zc]
    ((refine AnyT.one (i := 8) (by kernel_rfl) rfl (fun K hK => ?_)))
    go_simp
    refine (l25SameEvent_o X Y us us' lo hi lo' hi' w4 HR.out HR'.out hwi hwi' HX.out HX'.out).mono ?_
    rintro e5 w5 ⟨rfl, hb5⟩
    go_simp
    have HB5 := Lib.hid (HB.out.trans (hb5.mono HB.out.size))
    refine hK.out _ _ ⟨rng_below HC.out hb5 (by omega), rng_below HC'.out hb5 (by omega)⟩ (fun hHeld => ?_)
    clear hK K hb5 HC HC'
    (try simp only [Act.put, za, zb, zc])
    (refine AnyT.ta 9 26 ?_; simp only [Act.put, za, zb, zc])
    refine AnyT.done (by kernel_rfl) ?_ _
    clear hHeld
    by_cases hxy : X = Y
    ·have HS2 := Lib.hid (HST.out hxy)
     rw [same_t hxy]
     clear HST HNE hxy
     go_wp2_with fail
     go_roundw
     case rel => exact ⟨k + 1, by omega, by go_num, HS2, HB5.out⟩
     case measure => simp [intOf]; omega
    ·have HFF := Lib.hid (HANS.out.trans (same_f (HNE.out hxy)))
     rw [same_f hxy]
     clear hxy HST HNE
     go_wp2_with fail
     go_ret
     exact ⟨by rw [HFF.out]; rfl, HB5.out⟩
   ·obtain rfl : k = xs.length := by omega
    have HB := Lib.hid hb; have HT := Lib.hid (HANS.out.trans (same_t (take_all htk.out HL.out))); clear hb htk
    go_wp2_with fail
    go_ret
    exact ⟨by rw [HT.out]; rfl, HB.out⟩
 ·have HFF := Lib.hid (HANS.out.trans (same_f (ne_of_len hl)))
  have hm := hf'.1
  have n1 : ((xs.length : Int) == (ys.length : Int)) = false := by rw [beq_eq_false_iff_ne]; omega
  have n2 : ((xs.length : Int) != (ys.length : Int)) = true := by rw [bne_iff_ne]; omega
  clear hl h h' hf hf'
  go_enter Tryz.func62, Tryz.ntmps62
  go_wp2_with fail
  go_ret
  exact ⟨by rw [HFF.out]; rfl, Below.refl _ _⟩
theorem sSameTrans_o : SmS shTrans 116 := by
 intro X Y vs us lo hi lo' hi' w h h' hhi hhi' hf hf'
 obtain ⟨ANS, hANS⟩ : ∃ b, b = sameB X Y := ⟨_, rfl⟩
 rw [← hANS]
 obtain ⟨x0, x1, x2⟩ := X
 obtain ⟨y0, y1, y2⟩ := Y
 obtain ⟨ft0, ft1, ft2⟩ := hf
 obtain ⟨gt0, gt1, gt2⟩ := hf'
 have HANS := Lib.hid hANS; clear hANS
 obtain ⟨u0, ru0, eu0, k0, u1, ru1, eu1, k1, k2⟩ := h
 generalize ru1 = u2 at *
 obtain rfl := (show u0 = [.int .i64 x0] from k0)
 obtain rfl := (show u1 = [.int .i64 x1] from k1)
 have qk2 := k2; obtain ⟨A2, c2, rfl, _⟩ := qk2
 have HG := Lib.hid (show ∀ (W : World) (b : Nat) (t : TypeId), Blk W b t vs.toArray → W.cell? ⟨b, 0, none⟩ = some (.int .i64 x0) ∧ W.cell? ⟨b, 1, none⟩ = some (.int .i64 x1) ∧ W.cell? ⟨b, 2, none⟩ = some (.slice A2 x2.length c2) from fun W b t hB => by
  have q := blk_all hB
  obtain ⟨p0, q⟩ := rsp eu0 rfl q
  obtain ⟨p1, q⟩ := rsp eu1 rfl q
  exact ⟨rng_one p0, rng_one p1, rng_one q⟩)
 clear eu0 eu1
 obtain ⟨v0, rv0, ev0, l0, v1, rv1, ev1, l1, l2⟩ := h'
 generalize rv1 = v2 at *
 obtain rfl := (show v0 = [.int .i64 y0] from l0)
 obtain rfl := (show v1 = [.int .i64 y1] from l1)
 have ql2 := l2; obtain ⟨B2, d2, rfl, _⟩ := ql2
 have HH := Lib.hid (show ∀ (W : World) (b : Nat) (t : TypeId), Blk W b t us.toArray → W.cell? ⟨b, 0, none⟩ = some (.int .i64 y0) ∧ W.cell? ⟨b, 1, none⟩ = some (.int .i64 y1) ∧ W.cell? ⟨b, 2, none⟩ = some (.slice B2 y2.length d2) from fun W b t hB => by
  have q := blk_all hB
  obtain ⟨p0, q⟩ := rsp ev0 rfl q
  obtain ⟨p1, q⟩ := rsp ev1 rfl q
  exact ⟨rng_one p0, rng_one p1, rng_one q⟩)
 clear ev0 ev1
 have R0 := (((((Stand.nil w).ad (Sh.row 247 shEvent).R [.slice A2 x2.length c2] x2 hhi k2 (Sh.row 247 shEvent).R_keep).ad (Sh.row 247 shEvent).R [.slice B2 y2.length d2] y2 hhi' l2 (Sh.row 247 shEvent).R_keep).box 157 vs.toArray).box 157 us.toArray)
 rw [heap_alloc_size1] at R0
 have HR0 := Lib.hid R0
 clear R0 k2 l2
 go_enter Tryz.func116, Tryz.ntmps116
 have f0 := (HG.out _ _ _ (HR0.out.get 1 rfl)).1
 have g0 := (HH.out _ _ _ (HR0.out.get 0 rfl)).1
 have f1 := (HG.out _ _ _ (HR0.out.get 1 rfl)).2.1
 have g1 := (HH.out _ _ _ (HR0.out.get 0 rfl)).2.1
 have f2 := (HG.out _ _ _ (HR0.out.get 1 rfl)).2.2
 have g2 := (HH.out _ _ _ (HR0.out.get 0 rfl)).2.2
 by_cases hne : x0 = y0
 rotate_left
 ·have HF := nf (fun X : TyTrans => X.1) HANS hne
  have hq : (x0 == y0) = false := beq_eq_false_iff_ne.2 hne
  clear hne
  go_wp2_with fail
  go_ret
  exact ⟨by rw [HF.out]; rfl, HR0.out.1⟩
 subst hne
 by_cases hne : x1 = y1
 rotate_left
 ·have HF := nf (fun X : TyTrans => X.2.1) HANS hne
  have hq : (x1 == y1) = false := beq_eq_false_iff_ne.2 hne
  clear hne
  go_wp2_with fail
  go_ret
  exact ⟨by rw [HF.out]; rfl, HR0.out.1⟩
 subst hne
 go_wp2_with fail
 refine (sSameEvents A2 B2 c2 d2 x2 y2 lo hi lo' hi' _ (HR0.out.get 3 rfl) (HR0.out.get 2 rfl) (HR0.out.le 3 rfl) (HR0.out.le 2 rfl) ft2 gt2).mono ?_
 rintro e2 w2 ⟨rfl, hb2⟩
 have HR1 := Lib.hid (HR0.out.below hb2)
 clear hb2 HR0  f0 g0 f1 g1 f2 g2
 by_cases hne : x2 = y2
 rotate_left
 ·rw [same_f hne]
  have HF := nf (fun X : TyTrans => X.2.2) HANS hne
  clear hne
  go_wp2_with fail
  go_ret
  exact ⟨by rw [HF.out]; rfl, HR1.out.1⟩
 rw [same_t hne]
 subst hne
 have HT := Lib.hid (HANS.out.trans (same_t rfl))
 go_wp2_with fail
 go_ret
 exact ⟨by rw [HT.out]; rfl, HR1.out.1⟩
end Go.Proofs.YtgnmollbnopigaaGreat
/- Comparisons, both sides. Printed by gen_same2.py. -/
namespace Go.Proofs.YtgnmollbnopigaaGreat
open Go.RowKit
section
variable {P : Program} {l : List Oper} {Q : Exit → Go.Act → World → Prop} {md : Region.Mode} {S : World → Prop} {z : Nat → Bool}
end
theorem sSameBatches : SmR 167 shBatch 22 := by
 intro A B c d xs ys lo hi lo' hi' w h h' hhi hhi' hf hf'
 obtain ⟨ANS, hANS⟩ : ∃ b, b = sameB xs ys := ⟨_, rfl⟩
 rw [← hANS]
 have HANS := Lib.hid hANS; clear hANS
 have hn := hf.1
 by_cases hl : xs.length = ys.length
 ·have HA := Lib.hid h; have HA' := Lib.hid h'; have HL := Lib.hid hl; have HF := Lib.hid hf.2; have HF' := Lib.hid hf'.2
  rw [← hl] at HA' ⊢
  clear h h' hl hf hf'
  go_enter Tryz.func22, Tryz.ntmps22
  go_wp2_with fail
  go_loopw [5] (fun i wr => ∃ k : Nat, k ≤ xs.length ∧ i = .int .i64 k ∧ Hid (xs.take k = ys.take k) ∧ Below w.heap.size w wr) (fun i _ => xs.length - (intOf i).toNat)
  case atStart => exact ⟨0, Nat.zero_le _, rfl, Lib.hid rfl, Below.refl _ _⟩
  case round =>
   obtain ⟨k, hk, rfl, htk, hb⟩ := hrel
   by_cases hlt : k < xs.length
   ·have hly : k < ys.length := by have := HL.out; omega
    obtain ⟨b, off, rfl, hb1, hb2, us, hc, hX⟩ := row_at ((Sh.row 167 shBatch).R_below HA.out hb hhi) hlt
    obtain ⟨b', off', rfl, hb1', hb2', us', hc', hX'⟩ := row_at ((Sh.row 167 shBatch).R_below HA'.out hb hhi') hlt
    have HST := Lib.hid (fun he => take_step (d := shBatch.d) htk.out hlt HL.out he)
    have HNE := Lib.hid (fun he => ne_at (xs := xs) (ys := ys) (d := shBatch.d) (k := k) he)
    have HX := Lib.hid (HF.out _ (getD_in (d := shBatch.d) hlt)); have HX' := Lib.hid (HF'.out _ (getD_in (d := shBatch.d) hly))
    generalize xs.getD k shBatch.d = X at *
    generalize ys.getD k shBatch.d = Y at *
    have hsz := hb.size
    obtain ⟨x0, x1⟩ := X
    obtain ⟨y0, y1⟩ := Y
    have hX := shBatch.R_below hX (below_drewN' wr 1) (by omega); have hX' := shBatch.R_below hX' (below_drewN' wr 1) (by omega)
    obtain ⟨u0, u1, eu0, k0, k1⟩ := hX
    obtain rfl := (show u0 = [.int .i64 x0] from k0)
    have qk1 := k1; obtain ⟨A1, c1, rfl, _⟩ := qk1
    obtain ⟨v0, v1, ev0, l0, l1⟩ := hX'
    obtain rfl := (show v0 = [.int .i64 y0] from l0)
    have ql1 := l1; obtain ⟨B1, d1, rfl, _⟩ := ql1
    have HC := Lib.hid (show wr.drew.rangeAt b (off + k * 2) us from rng_of hc); have HC' := Lib.hid (show wr.drew.rangeAt b' (off' + k * 2) us' from rng_of hc')
    have HCF := Lib.hid (show ∀ W : World, W.rangeAt b (off + k * 2) us → W.cell? ⟨b, off + k * 2, none⟩ = some (.int .i64 x0) ∧ W.cell? ⟨b, off + k * 2 + 1, none⟩ = some (.slice A1 x1.length c1) from fun W q => by
     rw [eu0] at q; obtain ⟨q0, q⟩ := rng_split rfl q; exact ⟨rng_one q0, rng_one q⟩)
    have HCF' := Lib.hid (show ∀ W : World, W.rangeAt b' (off' + k * 2) us' → W.cell? ⟨b', off' + k * 2, none⟩ = some (.int .i64 y0) ∧ W.cell? ⟨b', off' + k * 2 + 1, none⟩ = some (.slice B1 y1.length d1) from fun W q => by
     rw [ev0] at q; obtain ⟨q0, q⟩ := rng_split rfl q; exact ⟨rng_one q0, rng_one q⟩)
    have HR := Lib.hid (show ((Sh.row 247 shEvent)).R wr.drew lo hi [.slice A1 x1.length c1] x1 from k1); have HR' := Lib.hid (show ((Sh.row 247 shEvent)).R wr.drew lo' hi' [.slice B1 y1.length d1] y1 from l1)
    have HB := Lib.hid hb.drew
    have hwi : hi ≤ wr.drew.heap.size := (show hi ≤ wr.heap.size by omega)
    have hwi' : hi' ≤ wr.drew.heap.size := (show hi' ≤ wr.heap.size by omega)
    clear hb hc hc' htk eu0 ev0 k0 l0 k1 l1
    go_upto_region 6 with fail
    refine AnyT.region (fun _ => false) (fun W => (W.cell? ⟨b, off + k * 2, none⟩ = some (.int .i64 x0) ∧ W.cell? ⟨b, off + k * 2 + 1, none⟩ = some (.slice A1 x1.length c1)) ∧ W.cell? ⟨b', off' + k * 2, none⟩ = some (.int .i64 y0) ∧ W.cell? ⟨b', off' + k * 2 + 1, none⟩ = some (.slice B1 y1.length d1)) (by kernel_rfl) ⟨HCF.out _ HC.out, HCF'.out _ HC'.out⟩ (fun hHeld => ?_)
    generalize wr.drew = w4 at *
    (refine AnyT.ta 0 17 ?_; simp only [Act.put, za, zb, zc])
    (refine AnyT.ta 1 18 ?_; simp only [Act.put, za, zb, zc])
    (refine AnyT.ta 2 19 ?_; simp only [Act.put, za, zb, zc])
    (refine AnyT.ta 3 20 ?_; simp only [Act.put, za, zb, zc])
    (refine AnyT.tk 4 21 ?_; simp only [Act.put, za, zb, zc])
    (refine AnyT.ta 5 22 ?_; simp only [Act.put, za, zb, zc])
    (refine AnyT.ta 6 23 ?_; simp only [Act.put, za, zb, zc])
    (refine AnyT.ta 7 24 ?_; simp only [Act.put, za, zb, zc])
    (refine AnyT.ta 8 25 ?_; simp only [Act.put, za, zb, zc])
    (refine AnyT.tk 9 26 ?_; simp only [Act.put, za, zb, zc])
    by_cases hne : x0 = y0
    rotate_left
    ·have hq : (x0 == y0) = false := beq_eq_false_iff_ne.2 hne
     have hq2 : (x0 != y0) = true := by simp [hne]
     have HFF := Lib.hid (HANS.out.trans (same_f (HNE.out (fun e => hne (congrArg (fun X : TyBatch => X.1) e)))))
     clear hne HST HNE
     (refine AnyT.ta 10 27 ?_; simp only [Act.put, za, zb, zc])
     (try rw [hq2])
     (refine AnyT.ta 11 28 ?_; simp only [Act.put, za, zb, zc])
     (refine AnyT.sk 12 29 ?_; simp only [Act.put, za, zb, zc])
     (refine AnyT.sk 13 30 ?_; simp only [Act.put, za, zb, zc])
     (refine AnyT.sk 14 31 ?_; simp only [Act.put, za, zb, zc])
     (refine AnyT.sk 15 32 ?_; simp only [Act.put, za, zb, zc])
     (refine AnyT.sk 16 33 ?_; simp only [Act.put, za, zb, zc])
     (refine AnyT.sk 17 34 ?_; simp only [Act.put, za, zb, zc])
     (refine AnyT.sk 18 35 ?_; simp only [Act.put, za, zb, zc])
     (refine AnyT.sk 19 36 ?_; simp only [Act.put, za, zb, zc])
     (refine AnyT.sk 20 37 ?_; simp only [Act.put, za, zb, zc])
     (refine AnyT.sk 21 38 ?_; simp only [Act.put, za, zb, zc])
     (refine AnyT.sk 22 39 ?_; simp only [Act.put, za, zb, zc])
     (refine AnyT.sk 23 40 ?_; simp only [Act.put, za, zb, zc])
     (refine AnyT.ta 24 41 ?_; simp only [Act.put, za, zb, zc])
     refine AnyT.done (by kernel_rfl) ?_ _
     clear hHeld
     go_wp2_with fail
     go_ret
     exact ⟨by rw [HFF.out]; rfl, HB.out⟩
    subst hne
    have hq2 : (x0 != x0) = false := by simp
    (refine AnyT.ta 10 27 ?_; simp only [Act.put, za, zb, zc])
    (try rw [hq2])
    (refine AnyT.ta 11 28 ?_; simp only [Act.put, za, zb, zc])
    (refine AnyT.ta 12 29 ?_; simp only [Act.put, za, zb, zc])
    (refine AnyT.ta 13 30 ?_; simp only [Act.put, za, zb, zc])
    (refine AnyT.ta 14 31 ?_; simp only [Act.put, za, zb, zc])
    (refine AnyT.ta 15 32 ?_; simp only [Act.put, za, zb, zc])
    (refine AnyT.tk 16 33 ?_; simp only [Act.put, za, zb, zc])
    (refine AnyT.ta 17 34 ?_; simp only [Act.put, za, zb, zc])
    (refine AnyT.ta 18 35 ?_; simp only [Act.put, za, zb, zc])
    (refine AnyT.ta 19 36 ?_; simp only [Act.put, za, zb, zc])
    (refine AnyT.ta 20 37 ?_; simp only [Act.put, za, zb, zc])
    (refine AnyT.tk 21 38 ?_; simp only [Act.put, za, zb, zc])
    ((refine AnyT.one (i := 22) (by kernel_rfl) rfl (fun K hK => ?_)))
    go_simp
    refine (sSameEvents A1 B1 c1 d1 x1 y1 lo hi lo' hi' w4 HR.out HR'.out hwi hwi' HX.out.2 HX'.out.2).mono ?_
    rintro e5 w5 ⟨rfl, hb5⟩
    go_simp
    have HB5 := Lib.hid (HB.out.trans (hb5.mono HB.out.size))
    refine hK.out _ _ ⟨HCF.out _ (rng_below HC.out hb5 (by omega)), HCF'.out _ (rng_below HC'.out hb5 (by omega))⟩ (fun hHeld => ?_)
    clear hK K hb5 HC HC'
    (try simp only [Act.put, za, zb, zc])
    (refine AnyT.ta 23 40 ?_; simp only [Act.put, za, zb, zc])
    (refine AnyT.ta 24 41 ?_; simp only [Act.put, za, zb, zc])
    refine AnyT.done (by kernel_rfl) ?_ _
    clear hHeld
    by_cases hxy : x1 = y1
    ·have HS2 := Lib.hid (HST.out (by rw [hxy]))
     rw [same_t hxy]
     clear HST HNE hxy
     go_wp2_with fail
     go_roundw
     case rel => exact ⟨k + 1, by omega, by go_num, HS2, HB5.out⟩
     case measure => simp [intOf]; omega
    ·have HFF := Lib.hid (HANS.out.trans (same_f (HNE.out (fun e => hxy (congrArg (fun X : TyBatch => X.2) e)))))
     rw [same_f hxy]
     clear hxy HST HNE
     go_wp2_with fail
     go_ret
     exact ⟨by rw [HFF.out]; rfl, HB5.out⟩
   ·obtain rfl : k = xs.length := by omega
    have HB := Lib.hid hb; have HT := Lib.hid (HANS.out.trans (same_t (take_all htk.out HL.out))); clear hb htk
    go_wp2_with fail
    go_ret
    exact ⟨by rw [HT.out]; rfl, HB.out⟩
 ·have HFF := Lib.hid (HANS.out.trans (same_f (ne_of_len hl)))
  have hm := hf'.1
  have n1 : ((xs.length : Int) == (ys.length : Int)) = false := by rw [beq_eq_false_iff_ne]; omega
  have n2 : ((xs.length : Int) != (ys.length : Int)) = true := by rw [bne_iff_ne]; omega
  clear hl h h' hf hf'
  go_enter Tryz.func22, Tryz.ntmps22
  go_wp2_with fail
  go_ret
  exact ⟨by rw [HFF.out]; rfl, Below.refl _ _⟩
end Go.Proofs.YtgnmollbnopigaaGreat
