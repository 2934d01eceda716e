/- Comparisons, both sides. Printed by gen_same2.py. -/
import Derived.Test.YtgnmollbnopigaaGreatJoinSTAv
import Derived.Test.YtgnmollbnopigaaGreatJoinSTBa
set_option maxHeartbeats 16000000
set_option maxRecDepth 100000
namespace Go.Proofs.YtgnmollbnopigaaGreat
open Go.RowKit
theorem rng_out {w w' : World} {b o : Nat} {us : List Value} {G : List Nat} (h : w.rangeAt b o us) (ho : Out G w w') (hb : b < w.heap.size) (hn : b ∉ G) : w'.rangeAt b o us := fun j v hj => (World.cell?_of_block (ho.block b hb hn)).trans (h j v hj)
theorem sizeIImage : (Tryz.prog.info? 284).map (·.size) = some shImage.k := by kernel_rfl
theorem sizeIParcel : (Tryz.prog.info? 187).map (·.size) = some shParcel.k := by kernel_rfl
theorem sameImage_o : SmS shImage 172 := by
 intro X Y vs us lo hi lo' hi' w h h' hhi hhi' hf hf'
 obtain ⟨ANS, hANS⟩ : ∃ b, b = sameB X Y := ⟨_, rfl⟩
 rw [← hANS]
 obtain ⟨x0, x1, x2, x3, x4, x5⟩ := X
 obtain ⟨y0, y1, y2, y3, y4, y5⟩ := Y
 obtain ⟨ft0, ft1, ft2, ft3, ft4, ft5⟩ := hf
 obtain ⟨gt0, gt1, gt2, gt3, gt4, gt5⟩ := hf'
 have HANS := Lib.hid hANS; clear hANS
 obtain ⟨u0, ru0, eu0, k0, u1, ru1, eu1, k1, u2, ru2, eu2, k2, u3, ru3, eu3, k3, u4, ru4, eu4, k4, k5⟩ := h
 generalize ru4 = u5 at *
 obtain rfl := (show u0 = [.string x0] from k0)
 have qk1 := k1; obtain ⟨A1, c1, rfl, _⟩ := qk1
 obtain rfl := (show u2 = [.bool x2] from k2)
 obtain rfl := (show u3 = [.string x3] from k3)
 obtain rfl := (show u4 = [.bool x4] from k4)
 obtain rfl := (show u5 = [.string x5] from k5)
 have HG := Lib.hid (show ∀ (W : World) (b : Nat) (t : TypeId), Blk W b t vs.toArray → W.cell? ⟨b, 0, none⟩ = some (.string x0) ∧ W.cell? ⟨b, 1, none⟩ = some (.slice A1 x1.length c1) ∧ W.cell? ⟨b, 2, none⟩ = some (.bool x2) ∧ W.cell? ⟨b, 3, none⟩ = some (.string x3) ∧ W.cell? ⟨b, 4, none⟩ = some (.bool x4) ∧ W.cell? ⟨b, 5, none⟩ = some (.string x5) from fun W b t hB => by
  have q := blk_all hB
  obtain ⟨p0, q⟩ := rsp eu0 rfl q
  obtain ⟨p1, q⟩ := rsp eu1 rfl q
  obtain ⟨p2, q⟩ := rsp eu2 rfl q
  obtain ⟨p3, q⟩ := rsp eu3 rfl q
  obtain ⟨p4, q⟩ := rsp eu4 rfl q
  exact ⟨rng_one p0, rng_one p1, rng_one p2, rng_one p3, rng_one p4, rng_one q⟩)
 clear eu0 eu1 eu2 eu3 eu4
 obtain ⟨v0, rv0, ev0, l0, v1, rv1, ev1, l1, v2, rv2, ev2, l2, v3, rv3, ev3, l3, v4, rv4, ev4, l4, l5⟩ := h'
 generalize rv4 = v5 at *
 obtain rfl := (show v0 = [.string y0] from l0)
 have ql1 := l1; obtain ⟨B1, d1, rfl, _⟩ := ql1
 obtain rfl := (show v2 = [.bool y2] from l2)
 obtain rfl := (show v3 = [.string y3] from l3)
 obtain rfl := (show v4 = [.bool y4] from l4)
 obtain rfl := (show v5 = [.string y5] from l5)
 have HH := Lib.hid (show ∀ (W : World) (b : Nat) (t : TypeId), Blk W b t us.toArray → W.cell? ⟨b, 0, none⟩ = some (.string y0) ∧ W.cell? ⟨b, 1, none⟩ = some (.slice B1 y1.length d1) ∧ W.cell? ⟨b, 2, none⟩ = some (.bool y2) ∧ W.cell? ⟨b, 3, none⟩ = some (.string y3) ∧ W.cell? ⟨b, 4, none⟩ = some (.bool y4) ∧ W.cell? ⟨b, 5, none⟩ = some (.string y5) from fun W b t hB => by
  have q := blk_all hB
  obtain ⟨p0, q⟩ := rsp ev0 rfl q
  obtain ⟨p1, q⟩ := rsp ev1 rfl q
  obtain ⟨p2, q⟩ := rsp ev2 rfl q
  obtain ⟨p3, q⟩ := rsp ev3 rfl q
  obtain ⟨p4, q⟩ := rsp ev4 rfl q
  exact ⟨rng_one p0, rng_one p1, rng_one p2, rng_one p3, rng_one p4, rng_one q⟩)
 clear ev0 ev1 ev2 ev3 ev4
 have R0 := (((((Stand.nil w).ad (Sh.row 9 shS).R [.slice A1 x1.length c1] x1 hhi k1 (Sh.row 9 shS).R_keep).ad (Sh.row 9 shS).R [.slice B1 y1.length d1] y1 hhi' l1 (Sh.row 9 shS).R_keep).box 284 vs.toArray).box 284 us.toArray)
 rw [heap_alloc_size1] at R0
 have HR0 := Lib.hid R0
 clear R0 k1 l1
 go_enter Tryz.func172, Tryz.ntmps172
 (try dsimp only [List.append])
 have f0 := (HG.out _ _ _ (HR0.out.get 1 rfl)).1
 have g0 := (HH.out _ _ _ (HR0.out.get 0 rfl)).1
 have f1 := (HG.out _ _ _ (HR0.out.get 1 rfl)).2.1
 have g1 := (HH.out _ _ _ (HR0.out.get 0 rfl)).2.1
 by_cases hne : x0 = y0
 rotate_left
 ·have HF := nf (fun X : TyImage => X.1) HANS hne
  have hq : (x0.toList == y0.toList) = false := str_ne hne
  clear hne
  go_wp2_with fail
  go_ret
  exact ⟨by rw [HF.out]; rfl, HR0.out.1⟩
 subst hne
 go_wp2_with fail
 refine (eqlStr A1 B1 c1 d1 x1 y1 lo hi lo' hi' _ (HR0.out.get 3 rfl) (HR0.out.get 2 rfl) (HR0.out.le 3 rfl) (HR0.out.le 2 rfl) ft1.1 gt1.1).mono ?_
 rintro e1 w1 ⟨rfl, hb1⟩
 have HR1 := Lib.hid (HR0.out.below hb1)
 clear hb1 HR0  f0 g0 f1 g1
 by_cases hne : x1 = y1
 rotate_left
 ·rw [same_f hne]
  have HF := nf (fun X : TyImage => X.2.1) HANS hne
  clear hne
  go_wp2_with fail
  go_ret
  exact ⟨by rw [HF.out]; rfl, HR1.out.1⟩
 rw [same_t hne]
 subst hne
 have f2 := (HG.out _ _ _ (HR1.out.get 1 rfl)).2.2.1
 have g2 := (HH.out _ _ _ (HR1.out.get 0 rfl)).2.2.1
 have f3 := (HG.out _ _ _ (HR1.out.get 1 rfl)).2.2.2.1
 have g3 := (HH.out _ _ _ (HR1.out.get 0 rfl)).2.2.2.1
 have f4 := (HG.out _ _ _ (HR1.out.get 1 rfl)).2.2.2.2.1
 have g4 := (HH.out _ _ _ (HR1.out.get 0 rfl)).2.2.2.2.1
 have f5 := (HG.out _ _ _ (HR1.out.get 1 rfl)).2.2.2.2.2
 have g5 := (HH.out _ _ _ (HR1.out.get 0 rfl)).2.2.2.2.2
 by_cases hne : x2 = y2
 rotate_left
 ·have HF := nf (fun X : TyImage => X.2.2.1) HANS hne
  have hq : (x2 == y2) = false := beq_eq_false_iff_ne.2 hne
  have hq2 := hq; (try simp only [beq_eq_false_iff_ne, ne_eq] at hq2)
  clear hne
  go_wp2_with fail
  go_ret
  exact ⟨by rw [HF.out]; rfl, HR1.out.1⟩
 subst hne
 by_cases hne : x3 = y3
 rotate_left
 ·have HF := nf (fun X : TyImage => X.2.2.2.1) HANS hne
  have hq : (x3.toList == y3.toList) = false := str_ne hne
  clear hne
  go_wp2_with fail
  go_ret
  exact ⟨by rw [HF.out]; rfl, HR1.out.1⟩
 subst hne
 by_cases hne : x4 = y4
 rotate_left
 ·have HF := nf (fun X : TyImage => X.2.2.2.2.1) HANS hne
  have hq : (x4 == y4) = false := beq_eq_false_iff_ne.2 hne
  have hq2 := hq; (try simp only [beq_eq_false_iff_ne, ne_eq] at hq2)
  clear hne
  go_wp2_with fail
  go_ret
  exact ⟨by rw [HF.out]; rfl, HR1.out.1⟩
 subst hne
 by_cases hne : x5 = y5
 rotate_left
 ·have HF := nf (fun X : TyImage => X.2.2.2.2.2) HANS hne
  have hq : (x5.toList == y5.toList) = false := str_ne hne
  clear hne
  go_wp2_with fail
  go_ret
  exact ⟨by rw [HF.out]; rfl, HR1.out.1⟩
 subst hne
 have HT := Lib.hid (HANS.out.trans (same_t rfl))
 go_wp2_with fail
 go_ret
 exact ⟨by rw [HT.out]; rfl, HR1.out.1⟩
theorem eqfImage : SmF 284 shImage 171 172 := by
 intro A B c d xs ys lo hi lo' hi' w h h' hhi hhi' hf hf'
 obtain ⟨ANS, hANS⟩ : ∃ b, b = sameB xs ys := ⟨_, rfl⟩
 rw [← hANS]
 have HANS := Lib.hid hANS; clear hANS
 have hn := hf.1
 by_cases hl : xs.length = ys.length
 ·have HA := Lib.hid h; have HA' := Lib.hid h'; have HL := Lib.hid hl; have HF := Lib.hid hf.2; have HF' := Lib.hid hf'.2
  rw [← hl] at HA' ⊢
  clear h h' hl hf hf'
  go_enter Tryz.func171, Tryz.ntmps171
  go_wp2_with fail
  go_loopw [17] (fun i wr => ∃ k : Nat, k ≤ xs.length ∧ i = .int .i64 k ∧ Hid (xs.take k = ys.take k) ∧ Below w.heap.size w wr) (fun i _ => xs.length - (intOf i).toNat)
  case atStart => exact ⟨0, Nat.zero_le _, rfl, Lib.hid rfl, Below.refl _ _⟩
  case round =>
   obtain ⟨k, hk, rfl, htk, hb⟩ := hrel
   by_cases hlt : k < xs.length
   ·have hly : k < ys.length := by have := HL.out; omega
    obtain ⟨b, off, rfl, hb1, hb2, us, hc, hX⟩ := row_at ((Sh.row 284 shImage).R_below HA.out hb hhi) hlt
    obtain ⟨b', off', rfl, hb1', hb2', us', hc', hX'⟩ := row_at ((Sh.row 284 shImage).R_below HA'.out hb hhi') hlt
    have HST := Lib.hid (fun he => take_step (d := shImage.d) htk.out hlt HL.out he)
    have HNE := Lib.hid (fun he => ne_at (xs := xs) (ys := ys) (d := shImage.d) (k := k) he)
    have HX := Lib.hid (HF.out _ (getD_in (d := shImage.d) hlt)); have HX' := Lib.hid (HF'.out _ (getD_in (d := shImage.d) hly))
    generalize xs.getD k shImage.d = X at *
    generalize ys.getD k shImage.d = Y at *
    have hsz := hb.size
    have hlu := shImage.R_len hX; have hlu' := shImage.R_len hX'
    obtain ⟨HC, HZ, HS, HO⟩ := elF (P := Tryz.prog) sizeIImage hc hX
    obtain ⟨HC', HZ', HS', HO'⟩ := elF (P := Tryz.prog) sizeIImage hc' hX'
    have HT := Lib.hid (there_blk (n := us.toArray.size) (o := 0) (Blk.new wr 284 zz14) (by rw [List.size_toArray, hlu]; exact Nat.le_refl _))
    have HR := Lib.hid hX; have HR' := Lib.hid hX'; have HB := Lib.hid hb
    obtain ⟨hbl, hr1, hz5⟩ := cpyF HT.out
    have HBL := Lib.hid hbl; have HR1 := Lib.hid hr1
    clear hb hX hX' hc hc' htk hbl hr1
    go_upto_region 6 with (first | fail | (refine wlg b (off + k * 6) us HC.out Tryz.underlying284 HZ.out ?_) | (refine wpList_store_mid rfl _ _ _ rfl wr.heap.size 0 us.toArray rfl rfl HT.out HS.out HO.out ?_))
    clear HT HS HO
    generalize (wr.alloc (.cells zz14 284)).setCells wr.heap.size 0 us = w5 at *
    have HC5 := Lib.hid (rng_below HC'.out HBL.out (by omega))
    have HT := Lib.hid (there_blk (n := us'.toArray.size) (o := 0) (Blk.new w5 284 zz14) (by rw [List.size_toArray, hlu']; exact Nat.le_refl _))
    have hbl : Below w5.heap.size w5 ((w5.alloc (.cells zz14 284)).setCells w5.heap.size 0 us') := ((Below.refl _ _).alloc (Nat.le_refl _) _).trans ((setCells_out w5.heap.size us' 0 (w5.alloc (.cells zz14 284))).1.below1 (Nat.le_refl _) (by simp))
    have hr2 : ((w5.alloc (.cells zz14 284)).setCells w5.heap.size 0 us').rangeAt w5.heap.size 0 us' := World.rangeAt_setCells_same _ _ _ _ (by simpa using HT.out)
    have HBM := Lib.hid hbl; have HR2 := Lib.hid hr2; have HQ1 := Lib.hid (rng_below HR1.out hbl (by omega))
    clear hbl hr2 HC HC' HR1
    go_upto_region 7 with (first | fail | (refine wlg b' (off' + k * 6) us' HC5.out Tryz.underlying284 HZ'.out ?_) | (refine wpList_store_mid rfl _ _ _ rfl w5.heap.size 0 us'.toArray rfl rfl HT.out HS'.out HO'.out ?_))
    clear HT HS' HO' HC5
    have HBB := Lib.hid (HBL.out.trans (HBM.out.mono (by omega)))
    generalize (w5.alloc (.cells zz14 284)).setCells w5.heap.size 0 us' = w6 at *
    have hs6 := HBB.out.size
    go_wp2_with (first | fail | (refine wlg wr.heap.size 0 us HQ1.out Tryz.underlying284 HZ.out ?_) | (refine wlg w5.heap.size 0 us' HR2.out Tryz.underlying284 HZ'.out ?_))
    refine (sameImage_o X Y us us' lo hi lo' hi' w6 (shImage.R_below HR.out HBB.out (by omega)) (shImage.R_below HR'.out HBB.out (by omega)) (by omega) (by omega) HX.out HX'.out).mono ?_
    rintro e7 w7 ⟨rfl, hb7⟩
    have HD := Lib.hid (HB.out.trans ((HBB.out.mono hsz).trans (hb7.mono (by omega))))
    clear hb7 HQ1 HR2
    by_cases hxy : X = Y
    ·have HS2 := Lib.hid (HST.out hxy)
     rw [same_t hxy]
     go_wp2_with fail
     go_roundw
     case rel => exact ⟨k + 1, by omega, by go_num, HS2, HD.out⟩
     case measure => simp [intOf]; omega
    ·have HFF := Lib.hid (HANS.out.trans (same_f (HNE.out hxy)))
     rw [same_f hxy]
     clear hxy HST HNE
     go_wp2_with fail
     go_ret
     exact ⟨by rw [HFF.out]; rfl, HD.out⟩
   ·obtain rfl : k = xs.length := by omega
    have HB := Lib.hid hb; have HT := Lib.hid (HANS.out.trans (same_t (take_all htk.out HL.out))); clear hb htk
    go_wp2_with fail
    go_ret
    exact ⟨by rw [HT.out]; rfl, HB.out⟩
 ·have HFF := Lib.hid (HANS.out.trans (same_f (ne_of_len hl)))
  have hm := hf'.1
  have n1 : ((xs.length : Int) == (ys.length : Int)) = false := by rw [beq_eq_false_iff_ne]; omega
  have n2 : ((xs.length : Int) != (ys.length : Int)) = true := by rw [bne_iff_ne]; omega
  clear hl h h' hf hf'
  go_enter Tryz.func171, Tryz.ntmps171
  go_wp2_with fail
  go_ret
  exact ⟨by rw [HFF.out]; rfl, Below.refl _ _⟩
theorem sameParcel_o : SmS shParcel 99 := by
 intro X Y vs us lo hi lo' hi' w h h' hhi hhi' hf hf'
 obtain ⟨ANS, hANS⟩ : ∃ b, b = sameB X Y := ⟨_, rfl⟩
 rw [← hANS]
 obtain ⟨x0, x1⟩ := X
 obtain ⟨y0, y1⟩ := Y
 obtain ⟨ft0, ft1⟩ := hf
 obtain ⟨gt0, gt1⟩ := hf'
 have HANS := Lib.hid hANS; clear hANS
 obtain ⟨u0, ru0, eu0, k0, k1⟩ := h
 generalize ru0 = u1 at *
 obtain rfl := (show u0 = [.int .i64 x0] from k0)
 have qk1 := k1; obtain ⟨A1, c1, rfl, _⟩ := qk1
 have HG := Lib.hid (show ∀ (W : World) (b : Nat) (t : TypeId), Blk W b t vs.toArray → W.cell? ⟨b, 0, none⟩ = some (.int .i64 x0) ∧ W.cell? ⟨b, 1, none⟩ = some (.slice A1 x1.length c1) from fun W b t hB => by
  have q := blk_all hB
  obtain ⟨p0, q⟩ := rsp eu0 rfl q
  exact ⟨rng_one p0, rng_one q⟩)
 clear eu0
 obtain ⟨v0, rv0, ev0, l0, l1⟩ := h'
 generalize rv0 = v1 at *
 obtain rfl := (show v0 = [.int .i64 y0] from l0)
 have ql1 := l1; obtain ⟨B1, d1, rfl, _⟩ := ql1
 have HH := Lib.hid (show ∀ (W : World) (b : Nat) (t : TypeId), Blk W b t us.toArray → W.cell? ⟨b, 0, none⟩ = some (.int .i64 y0) ∧ W.cell? ⟨b, 1, none⟩ = some (.slice B1 y1.length d1) from fun W b t hB => by
  have q := blk_all hB
  obtain ⟨p0, q⟩ := rsp ev0 rfl q
  exact ⟨rng_one p0, rng_one q⟩)
 clear ev0
 have R0 := (((((Stand.nil w).ad (Sh.row 284 shImage).R [.slice A1 x1.length c1] x1 hhi k1 (Sh.row 284 shImage).R_keep).ad (Sh.row 284 shImage).R [.slice B1 y1.length d1] y1 hhi' l1 (Sh.row 284 shImage).R_keep).box 187 vs.toArray).box 187 us.toArray)
 rw [heap_alloc_size1] at R0
 have HR0 := Lib.hid R0
 clear R0 k1 l1
 go_enter Tryz.func99, Tryz.ntmps99
 have f0 := (HG.out _ _ _ (HR0.out.get 1 rfl)).1
 have g0 := (HH.out _ _ _ (HR0.out.get 0 rfl)).1
 have f1 := (HG.out _ _ _ (HR0.out.get 1 rfl)).2
 have g1 := (HH.out _ _ _ (HR0.out.get 0 rfl)).2
 by_cases hne : x0 = y0
 rotate_left
 ·have HF := nf (fun X : TyParcel => X.1) HANS hne
  have hq : (x0 == y0) = false := beq_eq_false_iff_ne.2 hne
  clear hne
  go_wp2_with fail
  go_ret
  exact ⟨by rw [HF.out]; rfl, HR0.out.1⟩
 subst hne
 go_wp2_with fail
 refine (eqfImage A1 B1 c1 d1 x1 y1 lo hi lo' hi' _ (HR0.out.get 3 rfl) (HR0.out.get 2 rfl) (HR0.out.le 3 rfl) (HR0.out.le 2 rfl) ft1 gt1).mono ?_
 rintro e1 w1 ⟨rfl, hb1⟩
 have HR1 := Lib.hid (HR0.out.below hb1)
 clear hb1 HR0  f0 g0 f1 g1
 by_cases hne : x1 = y1
 rotate_left
 ·rw [same_f hne]
  have HF := nf (fun X : TyParcel => X.2) HANS hne
  clear hne
  go_wp2_with fail
  go_ret
  exact ⟨by rw [HF.out]; rfl, HR1.out.1⟩
 rw [same_t hne]
 subst hne
 have HT := Lib.hid (HANS.out.trans (same_t rfl))
 go_wp2_with fail
 go_ret
 exact ⟨by rw [HT.out]; rfl, HR1.out.1⟩
theorem eqfParcel : SmF 187 shParcel 98 99 := by
 intro A B c d xs ys lo hi lo' hi' w h h' hhi hhi' hf hf'
 obtain ⟨ANS, hANS⟩ : ∃ b, b = sameB xs ys := ⟨_, rfl⟩
 rw [← hANS]
 have HANS := Lib.hid hANS; clear hANS
 have hn := hf.1
 by_cases hl : xs.length = ys.length
 ·have HA := Lib.hid h; have HA' := Lib.hid h'; have HL := Lib.hid hl; have HF := Lib.hid hf.2; have HF' := Lib.hid hf'.2
  rw [← hl] at HA' ⊢
  clear h h' hl hf hf'
  go_enter Tryz.func98, Tryz.ntmps98
  go_wp2_with fail
  go_loopw [17] (fun i wr => ∃ k : Nat, k ≤ xs.length ∧ i = .int .i64 k ∧ Hid (xs.take k = ys.take k) ∧ Below w.heap.size w wr) (fun i _ => xs.length - (intOf i).toNat)
  case atStart => exact ⟨0, Nat.zero_le _, rfl, Lib.hid rfl, Below.refl _ _⟩
  case round =>
   obtain ⟨k, hk, rfl, htk, hb⟩ := hrel
   by_cases hlt : k < xs.length
   ·have hly : k < ys.length := by have := HL.out; omega
    obtain ⟨b, off, rfl, hb1, hb2, us, hc, hX⟩ := row_at ((Sh.row 187 shParcel).R_below HA.out hb hhi) hlt
    obtain ⟨b', off', rfl, hb1', hb2', us', hc', hX'⟩ := row_at ((Sh.row 187 shParcel).R_below HA'.out hb hhi') hlt
    have HST := Lib.hid (fun he => take_step (d := shParcel.d) htk.out hlt HL.out he)
    have HNE := Lib.hid (fun he => ne_at (xs := xs) (ys := ys) (d := shParcel.d) (k := k) he)
    have HX := Lib.hid (HF.out _ (getD_in (d := shParcel.d) hlt)); have HX' := Lib.hid (HF'.out _ (getD_in (d := shParcel.d) hly))
    generalize xs.getD k shParcel.d = X at *
    generalize ys.getD k shParcel.d = Y at *
    have hsz := hb.size
    have hlu := shParcel.R_len hX; have hlu' := shParcel.R_len hX'
    obtain ⟨HC, HZ, HS, HO⟩ := elF (P := Tryz.prog) sizeIParcel hc hX
    obtain ⟨HC', HZ', HS', HO'⟩ := elF (P := Tryz.prog) sizeIParcel hc' hX'
    have HT := Lib.hid (there_blk (n := us.toArray.size) (o := 0) (Blk.new wr 187 #[.int .i64 0, .slice none 0 0]) (by rw [List.size_toArray, hlu]; exact Nat.le_refl _))
    have HR := Lib.hid hX; have HR' := Lib.hid hX'; have HB := Lib.hid hb
    obtain ⟨hbl, hr1, hz5⟩ := cpyF HT.out
    have HBL := Lib.hid hbl; have HR1 := Lib.hid hr1
    clear hb hX hX' hc hc' htk hbl hr1
    go_upto_region 6 with (first | fail | (refine wlg b (off + k * 2) us HC.out Tryz.underlying187 HZ.out ?_) | (refine wpList_store_mid rfl _ _ _ rfl wr.heap.size 0 us.toArray rfl rfl HT.out HS.out HO.out ?_))
    clear HT HS HO
    generalize (wr.alloc (.cells #[.int .i64 0, .slice none 0 0] 187)).setCells wr.heap.size 0 us = w5 at *
    have HC5 := Lib.hid (rng_below HC'.out HBL.out (by omega))
    have HT := Lib.hid (there_blk (n := us'.toArray.size) (o := 0) (Blk.new w5 187 #[.int .i64 0, .slice none 0 0]) (by rw [List.size_toArray, hlu']; exact Nat.le_refl _))
    have hbl : Below w5.heap.size w5 ((w5.alloc (.cells #[.int .i64 0, .slice none 0 0] 187)).setCells w5.heap.size 0 us') := ((Below.refl _ _).alloc (Nat.le_refl _) _).trans ((setCells_out w5.heap.size us' 0 (w5.alloc (.cells #[.int .i64 0, .slice none 0 0] 187))).1.below1 (Nat.le_refl _) (by simp))
    have hr2 : ((w5.alloc (.cells #[.int .i64 0, .slice none 0 0] 187)).setCells w5.heap.size 0 us').rangeAt w5.heap.size 0 us' := World.rangeAt_setCells_same _ _ _ _ (by simpa using HT.out)
    have HBM := Lib.hid hbl; have HR2 := Lib.hid hr2; have HQ1 := Lib.hid (rng_below HR1.out hbl (by omega))
    clear hbl hr2 HC HC' HR1
    go_upto_region 7 with (first | fail | (refine wlg b' (off' + k * 2) us' HC5.out Tryz.underlying187 HZ'.out ?_) | (refine wpList_store_mid rfl _ _ _ rfl w5.heap.size 0 us'.toArray rfl rfl HT.out HS'.out HO'.out ?_))
    clear HT HS' HO' HC5
    have HBB := Lib.hid (HBL.out.trans (HBM.out.mono (by omega)))
    generalize (w5.alloc (.cells #[.int .i64 0, .slice none 0 0] 187)).setCells w5.heap.size 0 us' = w6 at *
    have hs6 := HBB.out.size
    go_wp2_with (first | fail | (refine wlg wr.heap.size 0 us HQ1.out Tryz.underlying187 HZ.out ?_) | (refine wlg w5.heap.size 0 us' HR2.out Tryz.underlying187 HZ'.out ?_))
    refine (sameParcel_o X Y us us' lo hi lo' hi' w6 (shParcel.R_below HR.out HBB.out (by omega)) (shParcel.R_below HR'.out HBB.out (by omega)) (by omega) (by omega) HX.out HX'.out).mono ?_
    rintro e7 w7 ⟨rfl, hb7⟩
    have HD := Lib.hid (HB.out.trans ((HBB.out.mono hsz).trans (hb7.mono (by omega))))
    clear hb7 HQ1 HR2
    by_cases hxy : X = Y
    ·have HS2 := Lib.hid (HST.out hxy)
     rw [same_t hxy]
     go_wp2_with fail
     go_roundw
     case rel => exact ⟨k + 1, by omega, by go_num, HS2, HD.out⟩
     case measure => simp [intOf]; omega
    ·have HFF := Lib.hid (HANS.out.trans (same_f (HNE.out hxy)))
     rw [same_f hxy]
     clear hxy HST HNE
     go_wp2_with fail
     go_ret
     exact ⟨by rw [HFF.out]; rfl, HD.out⟩
   ·obtain rfl : k = xs.length := by omega
    have HB := Lib.hid hb; have HT := Lib.hid (HANS.out.trans (same_t (take_all htk.out HL.out))); clear hb htk
    go_wp2_with fail
    go_ret
    exact ⟨by rw [HT.out]; rfl, HB.out⟩
 ·have HFF := Lib.hid (HANS.out.trans (same_f (ne_of_len hl)))
  have hm := hf'.1
  have n1 : ((xs.length : Int) == (ys.length : Int)) = false := by rw [beq_eq_false_iff_ne]; omega
  have n2 : ((xs.length : Int) != (ys.length : Int)) = true := by rw [bne_iff_ne]; omega
  clear hl h h' hf hf'
  go_enter Tryz.func98, Tryz.ntmps98
  go_wp2_with fail
  go_ret
  exact ⟨by rw [HFF.out]; rfl, Below.refl _ _⟩
theorem iSameReplica_o : SmS shReplica 41 := by
 intro X Y vs us lo hi lo' hi' w h h' hhi hhi' hf hf'
 obtain ⟨ANS, hANS⟩ : ∃ b, b = sameB X Y := ⟨_, rfl⟩
 rw [← hANS]
 obtain ⟨X0, x1, x2⟩ := X
 obtain ⟨Y0, y1, y2⟩ := Y
 obtain ⟨ft0, ft1, ft2⟩ := hf
 obtain ⟨gt0, gt1, gt2⟩ := hf'
 have HANS := Lib.hid hANS; clear hANS
 obtain ⟨u0, ru0, eu0, k0, u1, ru1, eu1, k1, k2⟩ := h
 generalize ru1 = u2 at *
 obtain rfl := (show u1 = [.int .i64 x1] from k1)
 have qk2 := k2; obtain ⟨A2, c2, rfl, _⟩ := qk2
 have HG := Lib.hid (show ∀ (W : World) (b : Nat) (t : TypeId), Blk W b t vs.toArray → W.rangeAt b 0 u0 ∧ W.cell? ⟨b, 1, none⟩ = some (.int .i64 x1) ∧ W.cell? ⟨b, 2, none⟩ = some (.slice A2 x2.length c2) from fun W b t hB => by
  have q := blk_all hB
  obtain ⟨p0, q⟩ := rsp eu0 (shTree.R_len k0) q
  obtain ⟨p1, q⟩ := rsp eu1 rfl q
  exact ⟨p0, rng_one p1, rng_one q⟩)
 clear eu0 eu1
 obtain ⟨v0, rv0, ev0, l0, v1, rv1, ev1, l1, l2⟩ := h'
 generalize rv1 = v2 at *
 obtain rfl := (show v1 = [.int .i64 y1] from l1)
 have ql2 := l2; obtain ⟨B2, d2, rfl, _⟩ := ql2
 have HH := Lib.hid (show ∀ (W : World) (b : Nat) (t : TypeId), Blk W b t us.toArray → W.rangeAt b 0 v0 ∧ W.cell? ⟨b, 1, none⟩ = some (.int .i64 y1) ∧ W.cell? ⟨b, 2, none⟩ = some (.slice B2 y2.length d2) from fun W b t hB => by
  have q := blk_all hB
  obtain ⟨p0, q⟩ := rsp ev0 (shTree.R_len l0) q
  obtain ⟨p1, q⟩ := rsp ev1 rfl q
  exact ⟨p0, rng_one p1, rng_one q⟩)
 clear ev0 ev1
 have R0 := (((((((Stand.nil w).ad shTree.R u0 X0 hhi k0 shTree.R_keep).ad (Sh.row 187 shParcel).R [.slice A2 x2.length c2] x2 hhi k2 (Sh.row 187 shParcel).R_keep).ad shTree.R v0 Y0 hhi' l0 shTree.R_keep).ad (Sh.row 187 shParcel).R [.slice B2 y2.length d2] y2 hhi' l2 (Sh.row 187 shParcel).R_keep).box 103 vs.toArray).box 103 us.toArray)
 rw [heap_alloc_size1] at R0
 have HR0 := Lib.hid R0
 have HZ0 := slH sizeITree k0
 have HY0 := slH sizeITree l0
 clear R0 k0 l0 k2 l2
 go_enter Tryz.func41, Tryz.ntmps41
 go_wp2_with (first | fail | (refine wlg w.heap.size 0 u0 (HG.out _ _ _ (HR0.out.get 1 rfl)).1 Tryz.underlying66 HZ0.out ?_) | (refine wlg (w.heap.size + 1) 0 v0 (HH.out _ _ _ (HR0.out.get 0 rfl)).1 Tryz.underlying66 HY0.out ?_))
 refine (iSameTree_o X0 Y0 u0 v0 lo hi lo' hi' _ (HR0.out.get 5 rfl) (HR0.out.get 3 rfl) (HR0.out.le 5 rfl) (HR0.out.le 3 rfl) ft0 gt0).mono ?_
 rintro e0 w0 ⟨rfl, hb0⟩
 have HR1 := Lib.hid (HR0.out.below hb0)
 clear hb0 HR0  
 by_cases hne : X0 = Y0
 rotate_left
 ·rw [same_f hne]
  have HF := nf (fun X : TyReplica => X.1) HANS hne
  clear hne
  go_wp2_with fail
  go_ret
  exact ⟨by rw [HF.out]; rfl, HR1.out.1⟩
 rw [same_t hne]
 subst hne
 have f1 := (HG.out _ _ _ (HR1.out.get 1 rfl)).2.1
 have g1 := (HH.out _ _ _ (HR1.out.get 0 rfl)).2.1
 have f2 := (HG.out _ _ _ (HR1.out.get 1 rfl)).2.2
 have g2 := (HH.out _ _ _ (HR1.out.get 0 rfl)).2.2
 by_cases hne : x1 = y1
 rotate_left
 ·have HF := nf (fun X : TyReplica => X.2.1) HANS hne
  have hq : (x1 == y1) = false := beq_eq_false_iff_ne.2 hne
  clear hne
  go_wp2_with fail
  go_ret
  exact ⟨by rw [HF.out]; rfl, HR1.out.1⟩
 subst hne
 go_wp2_with fail
 refine (eqfParcel A2 B2 c2 d2 x2 y2 lo hi lo' hi' _ (HR1.out.get 4 rfl) (HR1.out.get 2 rfl) (HR1.out.le 4 rfl) (HR1.out.le 2 rfl) ft2 gt2).mono ?_
 rintro e2 w2 ⟨rfl, hb2⟩
 have HR2 := Lib.hid (HR1.out.below hb2)
 clear hb2 HR1  f1 g1 f2 g2
 by_cases hne : x2 = y2
 rotate_left
 ·rw [same_f hne]
  have HF := nf (fun X : TyReplica => X.2.2) HANS hne
  clear hne
  go_wp2_with fail
  go_ret
  exact ⟨by rw [HF.out]; rfl, HR2.out.1⟩
 rw [same_t hne]
 subst hne
 have HT := Lib.hid (HANS.out.trans (same_t rfl))
 go_wp2_with fail
 go_ret
 exact ⟨by rw [HT.out]; rfl, HR2.out.1⟩
end Go.Proofs.YtgnmollbnopigaaGreat
