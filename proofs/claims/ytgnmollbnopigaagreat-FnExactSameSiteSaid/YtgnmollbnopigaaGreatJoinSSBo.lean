/- Comparisons, both sides. Printed by gen_same2.py. -/
import Derived.Test.YtgnmollbnopigaaGreatJoinSSBl
import Derived.Test.YtgnmollbnopigaaGreatJoinSSBh
namespace Go.Proofs.YtgnmollbnopigaaGreat
open Go.RowKit
set_option maxHeartbeats 4000000 in
set_option maxRecDepth 100000 in
theorem sSameProgram_o : SmS shProgram 54 := by
 intro X Y vs us lo hi lo' hi' w h h' hhi hhi' hf hf'
 obtain ⟨ANS, hANS⟩ : ∃ b, b = sameB X Y := ⟨_, rfl⟩
 rw [← hANS]
 obtain ⟨x0, x1⟩ := X
 obtain ⟨y0, y1⟩ := Y
 obtain ⟨ft0, ft1⟩ := hf
 obtain ⟨gt0, gt1⟩ := hf'
 have HANS := Lib.hid hANS; clear hANS
 obtain ⟨u0, ru0, eu0, k0, k1⟩ := h
 generalize ru0 = u1 at *
 have qk0 := k0; obtain ⟨A0, c0, rfl, _⟩ := qk0
 have qk1 := k1; obtain ⟨A1, c1, rfl, _⟩ := qk1
 have HG := Lib.hid (show ∀ (W : World) (b : Nat) (t : TypeId), Blk W b t vs.toArray → W.cell? ⟨b, 0, none⟩ = some (.slice A0 x0.length c0) ∧ W.cell? ⟨b, 1, none⟩ = some (.slice A1 x1.length c1) from fun W b t hB => by
  have q := blk_all hB
  obtain ⟨p0, q⟩ := rsp eu0 rfl q
  exact ⟨rng_one p0, rng_one q⟩)
 clear eu0
 obtain ⟨v0, rv0, ev0, l0, l1⟩ := h'
 generalize rv0 = v1 at *
 have ql0 := l0; obtain ⟨B0, d0, rfl, _⟩ := ql0
 have ql1 := l1; obtain ⟨B1, d1, rfl, _⟩ := ql1
 have HH := Lib.hid (show ∀ (W : World) (b : Nat) (t : TypeId), Blk W b t us.toArray → W.cell? ⟨b, 0, none⟩ = some (.slice B0 y0.length d0) ∧ W.cell? ⟨b, 1, none⟩ = some (.slice B1 y1.length d1) from fun W b t hB => by
  have q := blk_all hB
  obtain ⟨p0, q⟩ := rsp ev0 rfl q
  exact ⟨rng_one p0, rng_one q⟩)
 clear ev0
 have R0 := (((((((Stand.nil w).ad (Sh.row 226 shIns).R [.slice A0 x0.length c0] x0 hhi k0 (Sh.row 226 shIns).R_keep).ad (Sh.row 228 shEntry).R [.slice A1 x1.length c1] x1 hhi k1 (Sh.row 228 shEntry).R_keep).ad (Sh.row 226 shIns).R [.slice B0 y0.length d0] y0 hhi' l0 (Sh.row 226 shIns).R_keep).ad (Sh.row 228 shEntry).R [.slice B1 y1.length d1] y1 hhi' l1 (Sh.row 228 shEntry).R_keep).box 62 vs.toArray).box 62 us.toArray)
 rw [heap_alloc_size1] at R0
 have HR0 := Lib.hid R0
 clear R0 k0 l0 k1 l1
 go_enter Tryz.func54, Tryz.ntmps54
 have f0 := (HG.out _ _ _ (HR0.out.get 1 rfl)).1
 have g0 := (HH.out _ _ _ (HR0.out.get 0 rfl)).1
 have f1 := (HG.out _ _ _ (HR0.out.get 1 rfl)).2
 have g1 := (HH.out _ _ _ (HR0.out.get 0 rfl)).2
 by_cases hne : x0.length = y0.length
 rotate_left
 ·have HF := nf (fun X : TyProgram => (X.1).length) HANS hne
  have n1 : ((x0.length : Int) == (y0.length : Int)) = false := by rw [beq_eq_false_iff_ne]; omega
  have n2 : ((x0.length : Int) != (y0.length : Int)) = true := by rw [bne_iff_ne]; omega
  clear hne
  go_wp2_with fail
  go_ret
  exact ⟨by rw [HF.out]; rfl, HR0.out.1⟩
 have HL0 := Lib.hid hne
 have m0 : ((x0.length : Int) == (y0.length : Int)) = true := by rw [beq_iff_eq]; omega
 have n0 : ((x0.length : Int) != (y0.length : Int)) = false := by rw [hne]; simp
 clear hne
 by_cases hne : x1.length = y1.length
 rotate_left
 ·have HF := nf (fun X : TyProgram => (X.2).length) HANS hne
  have n1 : ((x1.length : Int) == (y1.length : Int)) = false := by rw [beq_eq_false_iff_ne]; omega
  have n2 : ((x1.length : Int) != (y1.length : Int)) = true := by rw [bne_iff_ne]; omega
  clear hne
  go_wp2_with fail
  go_ret
  exact ⟨by rw [HF.out]; rfl, HR0.out.1⟩
 have HL1 := Lib.hid hne
 have m1 : ((x1.length : Int) == (y1.length : Int)) = true := by rw [beq_iff_eq]; omega
 have n1 : ((x1.length : Int) != (y1.length : Int)) = false := by rw [hne]; simp
 clear hne
 go_wp2_with fail
 obtain ⟨Q, q0, qs, qg⟩ := HR0.out.veilQ
 have HQ0 := Lib.hid q0; have QS := Lib.hid qs; have QG := Lib.hid qg
 clear q0 qs qg HR0 f0 g0 f1 g1 m0 n0 m1 n1
 have hn0 := ft0.1
 go_loopw [5] (fun i wr => ∃ k : Nat, k ≤ x0.length ∧ i = .int .i64 k ∧ Hid (x0.take k = y0.take k) ∧ Hid (Q wr)) (fun i _ => x0.length - (intOf i).toNat)
 case atStart => exact ⟨0, Nat.zero_le _, rfl, Lib.hid rfl, HQ0⟩
 case round =>
  obtain ⟨k, hk, rfl, htk, hq0⟩ := hrel
  have HRr := Lib.hid (QG.out _ hq0.out)
  have f0 := (HG.out _ _ _ (HRr.out.get 1 rfl)).1
  have g0 := (HH.out _ _ _ (HRr.out.get 0 rfl)).1
  by_cases hlt : k < x0.length
  ·have hly : k < y0.length := by have := HL0.out; omega
   obtain ⟨b, off, rfl, hb1, hb2, us, hc, hX⟩ := row_at (HRr.out.get 5 rfl) hlt
   obtain ⟨b', off', rfl, hb1', hb2', us', hc', hX'⟩ := row_at (HRr.out.get 3 rfl) hly
   have HST := Lib.hid (fun he => take_step (d := shIns.d) htk.out hlt HL0.out he)
   have HNE := Lib.hid (fun he => ne_at (xs := x0) (ys := y0) (d := shIns.d) (k := k) he)
   generalize x0.getD k shIns.d = EX at *
   generalize y0.getD k shIns.d = EY at *
   obtain ⟨p0, p1, p2, p3⟩ := EX
   obtain ⟨q0, q1, q2, q3⟩ := EY
   obtain rfl : us = [.int .i64 p0, .int .i64 p1, .int .i64 p2, .string p3] := shIns_R.1 hX
   obtain rfl : us' = [.int .i64 q0, .int .i64 q1, .int .i64 q2, .string q3] := shIns_R.1 hX'
   have HC := Lib.hid (show wr.drew.rangeAt b (off + k * 4) [.int .i64 p0, .int .i64 p1, .int .i64 p2, .string p3] from rng_of hc); have HC' := Lib.hid (show wr.drew.rangeAt b' (off' + k * 4) [.int .i64 q0, .int .i64 q1, .int .i64 q2, .string q3] from rng_of hc')
   have HZ := slH sizeIIns hX; have HZ' := slH sizeIIns hX'
   have HQd := Lib.hid (QS.out _ wr.drew hq0.out (below_drewN' wr 1))
   have HRd := Lib.hid (QG.out _ HQd.out)
   have HF1 := Lib.hid (show wr.drew.cell? _ = _ from (HG.out _ _ _ (HRd.out.get 1 rfl)).1); have HF2 := Lib.hid (show wr.drew.cell? _ = _ from (HH.out _ _ _ (HRd.out.get 0 rfl)).1)
   clear hX hX' hc hc' htk HRr
   go_upto_region 6 with fail
   clear f0 g0
   refine AnyT.region (fun _ => false) (fun W => (W.cell? ⟨w.heap.size, 0, none⟩ = some (.slice (some ⟨b, off, none⟩) x0.length c0) ∧ W.cell? ⟨w.heap.size + 1, 0, none⟩ = some (.slice (some ⟨b', off', none⟩) y0.length d0)) ∧ W.rangeAt b (off + k * 4) [.int .i64 p0, .int .i64 p1, .int .i64 p2, .string p3] ∧ W.rangeAt b' (off' + k * 4) [.int .i64 q0, .int .i64 q1, .int .i64 q2, .string q3]) (by kernel_rfl) ⟨⟨HF1.out, HF2.out⟩, HC.out, HC'.out⟩ (fun hHeld => ?_)
   generalize wr.drew = w4 at *
   (refine AnyT.ta 0 32 ?_; simp only [Act.put, za, zb, zc])
   (refine AnyT.tk 1 33 ?_; simp only [Act.put, za, zb, zc])
   (refine AnyT.ta 2 34 ?_; simp only [Act.put, za, zb, zc])
   (refine AnyT.ta 3 35 ?_; simp only [Act.put, za, zb, zc])
   refine AnyT.tx 4 36 (.agg ([.int .i64 p0, .int .i64 p1, .int .i64 p2, .string p3] : List Value).toArray) (fun W hS => exec_loadMid _ _ rfl b (off + k * 4) rfl _ hS.2.1 Tryz.underlying226 rfl HZ.out) ?_
   simp only [Act.put, za, zb, zc]
   (refine AnyT.ta 5 37 ?_; simp only [Act.put, za, zb, zc])
   (refine AnyT.tk 6 38 ?_; simp only [Act.put, za, zb, zc])
   (refine AnyT.ta 7 39 ?_; simp only [Act.put, za, zb, zc])
   (refine AnyT.ta 8 40 ?_; simp only [Act.put, za, zb, zc])
   refine AnyT.tx 9 41 (.agg ([.int .i64 q0, .int .i64 q1, .int .i64 q2, .string q3] : List Value).toArray) (fun W hS => exec_loadMid _ _ rfl b' (off' + k * 4) rfl _ hS.2.2 Tryz.underlying226 rfl HZ'.out) ?_
   simp only [Act.put, za, zb, zc]
   refine AnyT.takeAny 10 42 (.bool (!sameB (p0, p1, p2, p3) (q0, q1, q2, q3))) rfl (by kernel_rfl) (by kernel_rfl) (by kernel_rfl) rfl rfl (fun _ _ _ _ h => h) rfl (fun W => exec_neq rfl rfl rfl (by kernel_rfl) (fun w => equalIns _ _ _ _ _ _ _ _ w)) (by assumption) ?_
   simp only [Act.put, za, zb, zc]
   have HQ5 := HQd
   refine AnyT.done (by kernel_rfl) ?_ _
   clear hHeld
   by_cases hxy : (p0, p1, p2, p3) = (q0, q1, q2, q3)
   ·have HS2 := Lib.hid (HST.out hxy)
    rw [same_t hxy]
    clear HST HNE hxy
    go_wp2_with fail
    go_roundw
    case rel => exact ⟨k + 1, by omega, by go_num, HS2, HQ5⟩
    case measure => simp [intOf]; omega
   ·have HFF := Lib.hid (HANS.out.trans (same_f (fun e => HNE.out hxy (congrArg (fun X : TyProgram => X.1) e))))
    rw [same_f hxy]
    clear hxy HST HNE
    go_wp2_with fail
    go_ret
    exact ⟨by rw [HFF.out]; rfl, (QG.out _ HQ5.out).1⟩
  ·obtain rfl : k = x0.length := by omega
   have he := take_all htk.out HL0.out
   clear htk HRr
   subst he
   go_wp2_with fail
   have hn1 := ft1.1
   go_loopw [6] (fun i wr => ∃ k : Nat, k ≤ x1.length ∧ i = .int .i64 k ∧ Hid (x1.take k = y1.take k) ∧ Hid (Q wr)) (fun i _ => x1.length - (intOf i).toNat)
   case atStart => exact ⟨0, Nat.zero_le _, rfl, Lib.hid rfl, hq0⟩
   case round =>
    obtain ⟨k, hk, rfl, htk, hq1⟩ := hrel
    have HRr := Lib.hid (QG.out _ hq1.out)
    have f1 := (HG.out _ _ _ (HRr.out.get 1 rfl)).2
    have g1 := (HH.out _ _ _ (HRr.out.get 0 rfl)).2
    by_cases hlt : k < x1.length
    ·have hly : k < y1.length := by have := HL1.out; omega
     have HL := HL1; have HF := Lib.hid ft1.2; have HF' := Lib.hid gt1.2
     have hhi := HRr.out.le 4 rfl; have hhi' := HRr.out.le 2 rfl; have hb := Below.refl wr.heap.size wr
     obtain ⟨b, off, rfl, hb1, hb2, us, hc, hX⟩ := row_at (HRr.out.get 4 rfl) hlt
     obtain ⟨b', off', rfl, hb1', hb2', us', hc', hX'⟩ := row_at (HRr.out.get 2 rfl) hly
     have HST := Lib.hid (fun he => take_step (d := shEntry.d) htk.out hlt HL.out he)
     have HNE := Lib.hid (fun he => ne_at (xs := x1) (ys := y1) (d := shEntry.d) (k := k) he)
     have HX := Lib.hid (HF.out _ (getD_in (d := shEntry.d) hlt)); have HX' := Lib.hid (HF'.out _ (getD_in (d := shEntry.d) hly))
     generalize x1.getD k shEntry.d = X at *
     generalize y1.getD k shEntry.d = Y at *
     have hsz := hb.size
     have hlu := shEntry.R_len hX; have hlu' := shEntry.R_len hX'
     obtain ⟨HC, HZ, HS, HO⟩ := elF (P := Tryz.prog) sizeIEntry hc hX
     obtain ⟨HC', HZ', HS', HO'⟩ := elF (P := Tryz.prog) sizeIEntry hc' hX'
     have HT := Lib.hid (there_blk (n := us.toArray.size) (o := 0) (Blk.new wr 228 zz4) (by rw [List.size_toArray, hlu]; exact Nat.le_refl _))
     have HR := Lib.hid hX; have HR' := Lib.hid hX'; have HB := Lib.hid hb
     obtain ⟨hbl, hr1, hz5⟩ := cpyF HT.out
     have HBL := Lib.hid hbl; have HR1 := Lib.hid hr1
     clear hb hX hX' hc hc' htk hbl hr1
     go_upto_region 12 with (first | fail | (refine wlg b (off + k * 4) us HC.out Tryz.underlying228 HZ.out ?_) | (refine wpList_store_mid rfl _ _ _ rfl wr.heap.size 0 us.toArray rfl rfl HT.out HS.out HO.out ?_))
     clear HT HS HO
     generalize (wr.alloc (.cells zz4 228)).setCells wr.heap.size 0 us = w5 at *
     clear f1 g1
     have g1 := (HH.out _ _ _ ((QG.out _ (QS.out _ _ hq1.out HBL.out)).get 0 rfl)).2
     have HC5 := Lib.hid (rng_below HC'.out HBL.out (by omega))
     have HT := Lib.hid (there_blk (n := us'.toArray.size) (o := 0) (Blk.new w5 228 zz4) (by rw [List.size_toArray, hlu']; exact Nat.le_refl _))
     have hbl : Below w5.heap.size w5 ((w5.alloc (.cells zz4 228)).setCells w5.heap.size 0 us') := ((Below.refl _ _).alloc (Nat.le_refl _) _).trans ((setCells_out w5.heap.size us' 0 (w5.alloc (.cells zz4 228))).1.below1 (Nat.le_refl _) (by simp))
     have hr2 : ((w5.alloc (.cells zz4 228)).setCells w5.heap.size 0 us').rangeAt w5.heap.size 0 us' := World.rangeAt_setCells_same _ _ _ _ (by simpa using HT.out)
     have HBM := Lib.hid hbl; have HR2 := Lib.hid hr2; have HQ1 := Lib.hid (rng_below HR1.out hbl (by omega))
     have hz6 : w5.heap.size + 1 ≤ ((w5.alloc (.cells zz4 228)).setCells w5.heap.size 0 us').heap.size := by rw [(setCells_out _ _ _ _).2]; simp
     clear hbl hr2 HC HR1
     go_upto_region 13 with (first | fail | (refine wlg b' (off' + k * 4) us' HC5.out Tryz.underlying228 HZ'.out ?_) | (refine wpList_store_mid rfl _ _ _ rfl w5.heap.size 0 us'.toArray rfl rfl HT.out HS'.out HO'.out ?_))
     clear HT HS' HO' HC5 HC'
     clear g1
     have HBB := Lib.hid (HBL.out.trans (HBM.out.mono (by omega)))
     generalize (w5.alloc (.cells zz4 228)).setCells w5.heap.size 0 us' = w6 at *
     have hs6 := HBB.out.size
     have HD := Lib.hid (HB.out.trans (HBB.out.mono hsz))
     have hRX := shEntry.R_below HR.out HBB.out (by omega); have hRY := shEntry.R_below HR'.out HBB.out (by omega)
     clear HR HR' HBL HBM HBB HB HZ HZ' hlu hlu'
     obtain ⟨p0, p1, p2, p3⟩ := X
     obtain ⟨q0, q1, q2, q3⟩ := Y
     have hFX := HX.out; have hFY := HX'.out
     obtain ⟨fe0, fe1, fe2, fe3⟩ := hFX
     obtain ⟨ge0, ge1, ge2, ge3⟩ := hFY
     clear HX HX'
     obtain ⟨s0, rs0, es0, k0, s1, rs1, es1, k1, s2, rs2, es2, k2, k3⟩ := hRX
     generalize rs2 = s3 at *
     obtain rfl := (show s0 = [.string p0] from k0)
     obtain rfl := (show s1 = [.string p1] from k1)
     obtain rfl := (show s2 = [.int .i64 p2] from k2)
     have qk3 := k3; obtain ⟨M3, m3, rfl, _⟩ := qk3
     have HE := Lib.hid (show ∀ (W : World) (b : Nat), W.rangeAt b 0 us → W.cell? ⟨b, 0, none⟩ = some (.string p0) ∧ W.cell? ⟨b, 1, none⟩ = some (.string p1) ∧ W.cell? ⟨b, 2, none⟩ = some (.int .i64 p2) ∧ W.cell? ⟨b, 3, none⟩ = some (.slice M3 p3.length m3) from fun W b hB => by
      have q := hB
      obtain ⟨p0, q⟩ := rsp es0 rfl q
      obtain ⟨p1, q⟩ := rsp es1 rfl q
      obtain ⟨p2, q⟩ := rsp es2 rfl q
      exact ⟨rng_one p0, rng_one p1, rng_one p2, rng_one q⟩)
     clear es0 es1 es2
     obtain ⟨t0, rt0, et0, l0, t1, rt1, et1, l1, t2, rt2, et2, l2, l3⟩ := hRY
     generalize rt2 = t3 at *
     obtain rfl := (show t0 = [.string q0] from l0)
     obtain rfl := (show t1 = [.string q1] from l1)
     obtain rfl := (show t2 = [.int .i64 q2] from l2)
     have ql3 := l3; obtain ⟨N3, n3, rfl, _⟩ := ql3
     have HJ := Lib.hid (show ∀ (W : World) (b : Nat), W.rangeAt b 0 us' → W.cell? ⟨b, 0, none⟩ = some (.string q0) ∧ W.cell? ⟨b, 1, none⟩ = some (.string q1) ∧ W.cell? ⟨b, 2, none⟩ = some (.int .i64 q2) ∧ W.cell? ⟨b, 3, none⟩ = some (.slice N3 q3.length n3) from fun W b hB => by
      have q := hB
      obtain ⟨p0, q⟩ := rsp et0 rfl q
      obtain ⟨p1, q⟩ := rsp et1 rfl q
      obtain ⟨p2, q⟩ := rsp et2 rfl q
      exact ⟨rng_one p0, rng_one p1, rng_one p2, rng_one q⟩)
     clear et0 et1 et2
     have f0 := (HE.out _ _ HQ1.out).1; have g0 := (HJ.out _ _ HR2.out).1
     have f1 := (HE.out _ _ HQ1.out).2.1; have g1 := (HJ.out _ _ HR2.out).2.1
     have f2 := (HE.out _ _ HQ1.out).2.2.1; have g2 := (HJ.out _ _ HR2.out).2.2.1
     have f3 := (HE.out _ _ HQ1.out).2.2.2; have g3 := (HJ.out _ _ HR2.out).2.2.2
     by_cases hne : p0 = q0
     rotate_left
     ·have HFF := Lib.hid (HANS.out.trans (same_f (fun e => (HNE.out (fun e => hne (congrArg (fun X : TyEntry => X.1) e))) (congrArg (fun X : TyProgram => X.2) e))))
      have hq : (p0.toList == q0.toList) = false := str_ne hne
      have hq2 : (!(p0.toList == q0.toList)) = true := by simp [hq]
      clear hne HST HNE
      go_wp2_with fail
      go_ret
      exact ⟨by rw [HFF.out]; rfl, (QG.out _ (QS.out _ _ hq1.out HD.out)).1⟩
     subst hne
     by_cases hne : p1 = q1
     rotate_left
     ·have HFF := Lib.hid (HANS.out.trans (same_f (fun e => (HNE.out (fun e => hne (congrArg (fun X : TyEntry => X.2.1) e))) (congrArg (fun X : TyProgram => X.2) e))))
      have hq : (p1.toList == q1.toList) = false := str_ne hne
      have hq2 : (!(p1.toList == q1.toList)) = true := by simp [hq]
      clear hne HST HNE
      go_wp2_with fail
      go_ret
      exact ⟨by rw [HFF.out]; rfl, (QG.out _ (QS.out _ _ hq1.out HD.out)).1⟩
     subst hne
     by_cases hne : p2 = q2
     rotate_left
     ·have HFF := Lib.hid (HANS.out.trans (same_f (fun e => (HNE.out (fun e => hne (congrArg (fun X : TyEntry => X.2.2.1) e))) (congrArg (fun X : TyProgram => X.2) e))))
      have hq : (p2 == q2) = false := beq_eq_false_iff_ne.2 hne
      have hq2 : (p2 != q2) = true := by simp [hq, bne]
      clear hne HST HNE
      go_wp2_with fail
      go_ret
      exact ⟨by rw [HFF.out]; rfl, (QG.out _ (QS.out _ _ hq1.out HD.out)).1⟩
     subst hne
     go_wp2_with fail
     refine (l02Same_r M3 N3 m3 n3 p3 q3 lo hi lo' hi' w6 k3 l3 (by omega) (by omega) fe3.1 ge3.1).mono ?_
     rintro e7 w7 ⟨rfl, hb7⟩
     have HD7 := Lib.hid (HD.out.trans (hb7.mono (by omega)))
     have HQ7 := Lib.hid (rng_below HQ1.out hb7 (by omega)); have HR7 := Lib.hid (rng_below HR2.out hb7 (by omega))
     clear hb7 HQ1 HR2 f0 g0 f1 g1 f2 g2 f3 g3
     have HQ1 := HQ7; have HR2 := HR7; clear HQ7 HR7
     by_cases hne : p3 = q3
     rotate_left
     ·rw [same_f hne]
      have HFF := Lib.hid (HANS.out.trans (same_f (fun e => (HNE.out (fun e => hne (congrArg (fun X : TyEntry => X.2.2.2) e))) (congrArg (fun X : TyProgram => X.2) e))))
      clear hne HST HNE
      go_wp2_with fail
      go_ret
      exact ⟨by rw [HFF.out]; rfl, (QG.out _ (QS.out _ _ hq1.out HD7.out)).1⟩
     rw [same_t hne]
     subst hne
     have HS2 := Lib.hid (HST.out rfl)
     clear HST HNE
     go_wp2_with fail
     go_roundw
     case rel => exact ⟨k + 1, by omega, by go_num, HS2, Lib.hid (QS.out _ _ hq1.out HD7.out)⟩
     case measure => simp [intOf]; omega
    ·obtain rfl : k = x1.length := by omega
     have he := take_all htk.out HL1.out
     clear htk HRr
     subst he
     have HT := Lib.hid (HANS.out.trans (same_t rfl))
     go_wp2_with fail
     go_ret
     exact ⟨by rw [HT.out]; rfl, (QG.out _ hq1.out).1⟩
end Go.Proofs.YtgnmollbnopigaaGreat
