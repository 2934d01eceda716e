/- Comparisons, both sides. Printed by gen_same2.py. -/
import Derived.Test.YtgnmollbnopigaaGreatJoinSTAv
import Derived.Test.YtgnmollbnopigaaGreatJoinSTBc
set_option maxHeartbeats 16000000
set_option maxRecDepth 100000
namespace Go.Proofs.YtgnmollbnopigaaGreat
open Go.RowKit
theorem sameCell_o : SmS shCell 233 := by
 intro X Y vs us lo hi lo' hi' w h h' hhi hhi' hf hf'
 obtain ⟨ANS, hANS⟩ : ∃ b, b = sameB X Y := ⟨_, rfl⟩
 rw [← hANS]
 obtain ⟨x0, X1⟩ := X
 obtain ⟨y0, Y1⟩ := Y
 obtain ⟨ft0, ft1⟩ := hf
 obtain ⟨gt0, gt1⟩ := hf'
 have HANS := Lib.hid hANS; clear hANS
 obtain ⟨u0, ru0, eu0, k0, k1⟩ := h
 generalize ru0 = u1 at *
 obtain rfl := (show u0 = [.int .i64 x0] from k0)
 have HG := Lib.hid (show ∀ (W : World) (b : Nat) (t : TypeId), Blk W b t vs.toArray → W.cell? ⟨b, 0, none⟩ = some (.int .i64 x0) ∧ W.rangeAt b 1 u1 from fun W b t hB => by
  have q := blk_all hB
  obtain ⟨p0, q⟩ := rsp eu0 rfl q
  exact ⟨rng_one p0, q⟩)
 clear eu0
 obtain ⟨v0, rv0, ev0, l0, l1⟩ := h'
 generalize rv0 = v1 at *
 obtain rfl := (show v0 = [.int .i64 y0] from l0)
 have HH := Lib.hid (show ∀ (W : World) (b : Nat) (t : TypeId), Blk W b t us.toArray → W.cell? ⟨b, 0, none⟩ = some (.int .i64 y0) ∧ W.rangeAt b 1 v1 from fun W b t hB => by
  have q := blk_all hB
  obtain ⟨p0, q⟩ := rsp ev0 rfl q
  exact ⟨rng_one p0, q⟩)
 clear ev0
 have R0 := (((((Stand.nil w).ad shTree.R u1 X1 hhi k1 shTree.R_keep).ad shTree.R v1 Y1 hhi' l1 shTree.R_keep).box 353 vs.toArray).box 353 us.toArray)
 rw [heap_alloc_size1] at R0
 have HR0 := Lib.hid R0
 have HZ1 := slH sizeITree k1
 have HY1 := slH sizeITree l1
 clear R0 k1 l1
 go_enter Tryz.func233, Tryz.ntmps233
 have f0 := (HG.out _ _ _ (HR0.out.get 1 rfl)).1
 have g0 := (HH.out _ _ _ (HR0.out.get 0 rfl)).1
 by_cases hne : x0 = y0
 rotate_left
 ·have HF := nf (fun X : TyCell => X.1) HANS hne
  have hq : (x0 == y0) = false := beq_eq_false_iff_ne.2 hne
  clear hne
  go_wp2_with fail
  go_ret
  exact ⟨by rw [HF.out]; rfl, HR0.out.1⟩
 subst hne
 go_wp2_with (first | fail | (refine wlg w.heap.size 1 u1 (HG.out _ _ _ (HR0.out.get 1 rfl)).2 Tryz.underlying66 HZ1.out ?_) | (refine wlg (w.heap.size + 1) 1 v1 (HH.out _ _ _ (HR0.out.get 0 rfl)).2 Tryz.underlying66 HY1.out ?_))
 refine (iSameTree_o X1 Y1 u1 v1 lo hi lo' hi' _ (HR0.out.get 3 rfl) (HR0.out.get 2 rfl) (HR0.out.le 3 rfl) (HR0.out.le 2 rfl) ft1 gt1).mono ?_
 rintro e1 w1 ⟨rfl, hb1⟩
 have HR1 := Lib.hid (HR0.out.below hb1)
 clear hb1 HR0  f0 g0
 by_cases hne : X1 = Y1
 rotate_left
 ·rw [same_f hne]
  have HF := nf (fun X : TyCell => X.2) HANS hne
  clear hne
  go_wp2_with fail
  go_ret
  exact ⟨by rw [HF.out]; rfl, HR1.out.1⟩
 rw [same_t hne]
 subst hne
 have HT := Lib.hid (HANS.out.trans (same_t rfl))
 go_wp2_with fail
 go_ret
 exact ⟨by rw [HT.out]; rfl, HR1.out.1⟩
theorem eqfCell : SmF 353 shCell 236 233 := by
 intro A B c d xs ys lo hi lo' hi' w h h' hhi hhi' hf hf'
 obtain ⟨ANS, hANS⟩ : ∃ b, b = sameB xs ys := ⟨_, rfl⟩
 rw [← hANS]
 have HANS := Lib.hid hANS; clear hANS
 have hn := hf.1
 by_cases hl : xs.length = ys.length
 ·have HA := Lib.hid h; have HA' := Lib.hid h'; have HL := Lib.hid hl; have HF := Lib.hid hf.2; have HF' := Lib.hid hf'.2
  rw [← hl] at HA' ⊢
  clear h h' hl hf hf'
  go_enter Tryz.func236, Tryz.ntmps236
  go_wp2_with fail
  go_loopw [17] (fun i wr => ∃ k : Nat, k ≤ xs.length ∧ i = .int .i64 k ∧ Hid (xs.take k = ys.take k) ∧ Below w.heap.size w wr) (fun i _ => xs.length - (intOf i).toNat)
  case atStart => exact ⟨0, Nat.zero_le _, rfl, Lib.hid rfl, Below.refl _ _⟩
  case round =>
   obtain ⟨k, hk, rfl, htk, hb⟩ := hrel
   by_cases hlt : k < xs.length
   ·have hly : k < ys.length := by have := HL.out; omega
    obtain ⟨b, off, rfl, hb1, hb2, us, hc, hX⟩ := row_at ((Sh.row 353 shCell).R_below HA.out hb hhi) hlt
    obtain ⟨b', off', rfl, hb1', hb2', us', hc', hX'⟩ := row_at ((Sh.row 353 shCell).R_below HA'.out hb hhi') hlt
    have HST := Lib.hid (fun he => take_step (d := shCell.d) htk.out hlt HL.out he)
    have HNE := Lib.hid (fun he => ne_at (xs := xs) (ys := ys) (d := shCell.d) (k := k) he)
    have HX := Lib.hid (HF.out _ (getD_in (d := shCell.d) hlt)); have HX' := Lib.hid (HF'.out _ (getD_in (d := shCell.d) hly))
    generalize xs.getD k shCell.d = X at *
    generalize ys.getD k shCell.d = Y at *
    have hsz := hb.size
    have hlu := shCell.R_len hX; have hlu' := shCell.R_len hX'
    obtain ⟨HC, HZ, HS, HO⟩ := elF (P := Tryz.prog) sizeICell hc hX
    obtain ⟨HC', HZ', HS', HO'⟩ := elF (P := Tryz.prog) sizeICell hc' hX'
    have HT := Lib.hid (there_blk (n := us.toArray.size) (o := 0) (Blk.new wr 353 #[.int .i64 0, .slice none 0 0]) (by rw [List.size_toArray, hlu]; exact Nat.le_refl _))
    have HR := Lib.hid hX; have HR' := Lib.hid hX'; have HB := Lib.hid hb
    obtain ⟨hbl, hr1, hz5⟩ := cpyF HT.out
    have HBL := Lib.hid hbl; have HR1 := Lib.hid hr1
    clear hb hX hX' hc hc' htk hbl hr1
    go_upto_region 6 with (first | fail | (refine wlg b (off + k * 2) us HC.out Tryz.underlying353 HZ.out ?_) | (refine wpList_store_mid rfl _ _ _ rfl wr.heap.size 0 us.toArray rfl rfl HT.out HS.out HO.out ?_))
    clear HT HS HO
    generalize (wr.alloc (.cells #[.int .i64 0, .slice none 0 0] 353)).setCells wr.heap.size 0 us = w5 at *
    have HC5 := Lib.hid (rng_below HC'.out HBL.out (by omega))
    have HT := Lib.hid (there_blk (n := us'.toArray.size) (o := 0) (Blk.new w5 353 #[.int .i64 0, .slice none 0 0]) (by rw [List.size_toArray, hlu']; exact Nat.le_refl _))
    have hbl : Below w5.heap.size w5 ((w5.alloc (.cells #[.int .i64 0, .slice none 0 0] 353)).setCells w5.heap.size 0 us') := ((Below.refl _ _).alloc (Nat.le_refl _) _).trans ((setCells_out w5.heap.size us' 0 (w5.alloc (.cells #[.int .i64 0, .slice none 0 0] 353))).1.below1 (Nat.le_refl _) (by simp))
    have hr2 : ((w5.alloc (.cells #[.int .i64 0, .slice none 0 0] 353)).setCells w5.heap.size 0 us').rangeAt w5.heap.size 0 us' := World.rangeAt_setCells_same _ _ _ _ (by simpa using HT.out)
    have HBM := Lib.hid hbl; have HR2 := Lib.hid hr2; have HQ1 := Lib.hid (rng_below HR1.out hbl (by omega))
    clear hbl hr2 HC HC' HR1
    go_upto_region 7 with (first | fail | (refine wlg b' (off' + k * 2) us' HC5.out Tryz.underlying353 HZ'.out ?_) | (refine wpList_store_mid rfl _ _ _ rfl w5.heap.size 0 us'.toArray rfl rfl HT.out HS'.out HO'.out ?_))
    clear HT HS' HO' HC5
    have HBB := Lib.hid (HBL.out.trans (HBM.out.mono (by omega)))
    generalize (w5.alloc (.cells #[.int .i64 0, .slice none 0 0] 353)).setCells w5.heap.size 0 us' = w6 at *
    have hs6 := HBB.out.size
    go_wp2_with (first | fail | (refine wlg wr.heap.size 0 us HQ1.out Tryz.underlying353 HZ.out ?_) | (refine wlg w5.heap.size 0 us' HR2.out Tryz.underlying353 HZ'.out ?_))
    refine (sameCell_o X Y us us' lo hi lo' hi' w6 (shCell.R_below HR.out HBB.out (by omega)) (shCell.R_below HR'.out HBB.out (by omega)) (by omega) (by omega) HX.out HX'.out).mono ?_
    rintro e7 w7 ⟨rfl, hb7⟩
    have HD := Lib.hid (HB.out.trans ((HBB.out.mono hsz).trans (hb7.mono (by omega))))
    clear hb7 HQ1 HR2
    by_cases hxy : X = Y
    ·have HS2 := Lib.hid (HST.out hxy)
     rw [same_t hxy]
     go_wp2_with fail
     go_roundw
     case rel => exact ⟨k + 1, by omega, by go_num, HS2, HD.out⟩
     case measure => simp [intOf]; omega
    ·have HFF := Lib.hid (HANS.out.trans (same_f (HNE.out hxy)))
     rw [same_f hxy]
     clear hxy HST HNE
     go_wp2_with fail
     go_ret
     exact ⟨by rw [HFF.out]; rfl, HD.out⟩
   ·obtain rfl : k = xs.length := by omega
    have HB := Lib.hid hb; have HT := Lib.hid (HANS.out.trans (same_t (take_all htk.out HL.out))); clear hb htk
    go_wp2_with fail
    go_ret
    exact ⟨by rw [HT.out]; rfl, HB.out⟩
 ·have HFF := Lib.hid (HANS.out.trans (same_f (ne_of_len hl)))
  have hm := hf'.1
  have n1 : ((xs.length : Int) == (ys.length : Int)) = false := by rw [beq_eq_false_iff_ne]; omega
  have n2 : ((xs.length : Int) != (ys.length : Int)) = true := by rw [bne_iff_ne]; omega
  clear hl h h' hf hf'
  go_enter Tryz.func236, Tryz.ntmps236
  go_wp2_with fail
  go_ret
  exact ⟨by rw [HFF.out]; rfl, Below.refl _ _⟩
theorem sameLevel_o : SmS shLevel 234 := by
 intro X Y vs us lo hi lo' hi' w h h' hhi hhi' hf hf'
 obtain ⟨ANS, hANS⟩ : ∃ b, b = sameB X Y := ⟨_, rfl⟩
 rw [← hANS]
 have HANS := Lib.hid hANS; clear hANS
 have ft0 := hf; have gt0 := hf'
 have k0 := h; obtain ⟨A0, c0, rfl, _⟩ := h
 have l0 := h'; obtain ⟨B0, d0, rfl, _⟩ := h'
 have HG := Lib.hid (show ∀ (W : World) (b : Nat) (t : TypeId), Blk W b t ([.slice A0 X.length c0] : List Value).toArray → W.cell? ⟨b, 0, none⟩ = some (.slice A0 X.length c0) from fun W b t hB => rng_one (blk_all hB))
 have HH := Lib.hid (show ∀ (W : World) (b : Nat) (t : TypeId), Blk W b t ([.slice B0 Y.length d0] : List Value).toArray → W.cell? ⟨b, 0, none⟩ = some (.slice B0 Y.length d0) from fun W b t hB => rng_one (blk_all hB))
 have R0 := (((((Stand.nil w).ad (Sh.row 359 shBind).R [.slice A0 X.length c0] X hhi k0 (Sh.row 359 shBind).R_keep).ad (Sh.row 359 shBind).R [.slice B0 Y.length d0] Y hhi' l0 (Sh.row 359 shBind).R_keep).box 356 ([.slice A0 X.length c0] : List Value).toArray).box 356 ([.slice B0 Y.length d0] : List Value).toArray)
 rw [heap_alloc_size1] at R0
 have HR0 := Lib.hid R0
 clear R0 k0 l0
 go_enter Tryz.func234, Tryz.ntmps234
 have f0 := (HG.out _ _ _ (HR0.out.get 1 rfl))
 have g0 := (HH.out _ _ _ (HR0.out.get 0 rfl))
 go_wp2_with fail
 refine (eqlBind A0 B0 c0 d0 X Y lo hi lo' hi' _ (HR0.out.get 3 rfl) (HR0.out.get 2 rfl) (HR0.out.le 3 rfl) (HR0.out.le 2 rfl) hf.1 hf'.1).mono ?_
 rintro e0 w0 ⟨rfl, hb0⟩
 have HR1 := Lib.hid (HR0.out.below hb0)
 clear hb0 HR0  f0 g0
 by_cases hne : X = Y
 rotate_left
 ·rw [same_f hne]
  have HF := nf (fun X : TyLevel => X) HANS hne
  clear hne
  go_wp2_with fail
  go_ret
  exact ⟨by rw [HF.out]; rfl, HR1.out.1⟩
 rw [same_t hne]
 subst hne
 have HT := Lib.hid (HANS.out.trans (same_t rfl))
 go_wp2_with fail
 go_ret
 exact ⟨by rw [HT.out]; rfl, HR1.out.1⟩
theorem eqfLevel : SmF 356 shLevel 237 234 := by
 intro A B c d xs ys lo hi lo' hi' w h h' hhi hhi' hf hf'
 obtain ⟨ANS, hANS⟩ : ∃ b, b = sameB xs ys := ⟨_, rfl⟩
 rw [← hANS]
 have HANS := Lib.hid hANS; clear hANS
 have hn := hf.1
 by_cases hl : xs.length = ys.length
 ·have HA := Lib.hid h; have HA' := Lib.hid h'; have HL := Lib.hid hl; have HF := Lib.hid hf.2; have HF' := Lib.hid hf'.2
  rw [← hl] at HA' ⊢
  clear h h' hl hf hf'
  go_enter Tryz.func237, Tryz.ntmps237
  go_wp2_with fail
  go_loopw [17] (fun i wr => ∃ k : Nat, k ≤ xs.length ∧ i = .int .i64 k ∧ Hid (xs.take k = ys.take k) ∧ Below w.heap.size w wr) (fun i _ => xs.length - (intOf i).toNat)
  case atStart => exact ⟨0, Nat.zero_le _, rfl, Lib.hid rfl, Below.refl _ _⟩
  case round =>
   obtain ⟨k, hk, rfl, htk, hb⟩ := hrel
   by_cases hlt : k < xs.length
   ·have hly : k < ys.length := by have := HL.out; omega
    obtain ⟨b, off, rfl, hb1, hb2, us, hc, hX⟩ := row_at ((Sh.row 356 shLevel).R_below HA.out hb hhi) hlt
    obtain ⟨b', off', rfl, hb1', hb2', us', hc', hX'⟩ := row_at ((Sh.row 356 shLevel).R_below HA'.out hb hhi') hlt
    have HST := Lib.hid (fun he => take_step (d := shLevel.d) htk.out hlt HL.out he)
    have HNE := Lib.hid (fun he => ne_at (xs := xs) (ys := ys) (d := shLevel.d) (k := k) he)
    have HX := Lib.hid (HF.out _ (getD_in (d := shLevel.d) hlt)); have HX' := Lib.hid (HF'.out _ (getD_in (d := shLevel.d) hly))
    generalize xs.getD k shLevel.d = X at *
    generalize ys.getD k shLevel.d = Y at *
    have hsz := hb.size
    have hlu := shLevel.R_len hX; have hlu' := shLevel.R_len hX'
    have HC := Lib.hid (rng_of1 hc); have HZ := slH sizeILevel hX; have HS := saH sizeILevel hX; have HO := Lib.hid (all_oneCell_toArray (shLevel.R_one hX))
    have HC' := Lib.hid (rng_of1 hc'); have HZ' := slH sizeILevel hX'; have HS' := saH sizeILevel hX'; have HO' := Lib.hid (all_oneCell_toArray (shLevel.R_one hX'))
    have HT := Lib.hid (there_blk (n := us.toArray.size) (o := 0) (Blk.new wr 356 #[.slice none 0 0]) (by rw [List.size_toArray, hlu]; exact Nat.le_refl _))
    have HR := Lib.hid hX; have HR' := Lib.hid hX'; have HB := Lib.hid hb
    obtain ⟨hbl, hr1, hz5⟩ := cpyF HT.out
    have HBL := Lib.hid hbl; have HR1 := Lib.hid hr1
    clear hb hX hX' hc hc' htk hbl hr1
    go_upto_region 6 with (first | fail | (refine wlg b (off + k) us HC.out Tryz.underlying356 HZ.out ?_) | (refine wpList_store_mid rfl _ _ _ rfl wr.heap.size 0 us.toArray rfl rfl HT.out HS.out HO.out ?_))
    clear HT HS HO
    generalize (wr.alloc (.cells #[.slice none 0 0] 356)).setCells wr.heap.size 0 us = w5 at *
    have HC5 := Lib.hid (rng_below HC'.out HBL.out (by omega))
    have HT := Lib.hid (there_blk (n := us'.toArray.size) (o := 0) (Blk.new w5 356 #[.slice none 0 0]) (by rw [List.size_toArray, hlu']; exact Nat.le_refl _))
    have hbl : Below w5.heap.size w5 ((w5.alloc (.cells #[.slice none 0 0] 356)).setCells w5.heap.size 0 us') := ((Below.refl _ _).alloc (Nat.le_refl _) _).trans ((setCells_out w5.heap.size us' 0 (w5.alloc (.cells #[.slice none 0 0] 356))).1.below1 (Nat.le_refl _) (by simp))
    have hr2 : ((w5.alloc (.cells #[.slice none 0 0] 356)).setCells w5.heap.size 0 us').rangeAt w5.heap.size 0 us' := World.rangeAt_setCells_same _ _ _ _ (by simpa using HT.out)
    have HBM := Lib.hid hbl; have HR2 := Lib.hid hr2; have HQ1 := Lib.hid (rng_below HR1.out hbl (by omega))
    clear hbl hr2 HC HC' HR1
    go_upto_region 7 with (first | fail | (refine wlg b' (off' + k) us' HC5.out Tryz.underlying356 HZ'.out ?_) | (refine wpList_store_mid rfl _ _ _ rfl w5.heap.size 0 us'.toArray rfl rfl HT.out HS'.out HO'.out ?_))
    clear HT HS' HO' HC5
    have HBB := Lib.hid (HBL.out.trans (HBM.out.mono (by omega)))
    generalize (w5.alloc (.cells #[.slice none 0 0] 356)).setCells w5.heap.size 0 us' = w6 at *
    have hs6 := HBB.out.size
    go_wp2_with (first | fail | (refine wlg wr.heap.size 0 us HQ1.out Tryz.underlying356 HZ.out ?_) | (refine wlg w5.heap.size 0 us' HR2.out Tryz.underlying356 HZ'.out ?_))
    refine (sameLevel_o X Y us us' lo hi lo' hi' w6 (shLevel.R_below HR.out HBB.out (by omega)) (shLevel.R_below HR'.out HBB.out (by omega)) (by omega) (by omega) HX.out HX'.out).mono ?_
    rintro e7 w7 ⟨rfl, hb7⟩
    have HD := Lib.hid (HB.out.trans ((HBB.out.mono hsz).trans (hb7.mono (by omega))))
    clear hb7 HQ1 HR2
    by_cases hxy : X = Y
    ·have HS2 := Lib.hid (HST.out hxy)
     rw [same_t hxy]
     go_wp2_with fail
     go_roundw
     case rel => exact ⟨k + 1, by omega, by go_num, HS2, HD.out⟩
     case measure => simp [intOf]; omega
    ·have HFF := Lib.hid (HANS.out.trans (same_f (HNE.out hxy)))
     rw [same_f hxy]
     clear hxy HST HNE
     go_wp2_with fail
     go_ret
     exact ⟨by rw [HFF.out]; rfl, HD.out⟩
   ·obtain rfl : k = xs.length := by omega
    have HB := Lib.hid hb; have HT := Lib.hid (HANS.out.trans (same_t (take_all htk.out HL.out))); clear hb htk
    go_wp2_with fail
    go_ret
    exact ⟨by rw [HT.out]; rfl, HB.out⟩
 ·have HFF := Lib.hid (HANS.out.trans (same_f (ne_of_len hl)))
  have hm := hf'.1
  have n1 : ((xs.length : Int) == (ys.length : Int)) = false := by rw [beq_eq_false_iff_ne]; omega
  have n2 : ((xs.length : Int) != (ys.length : Int)) = true := by rw [bne_iff_ne]; omega
  clear hl h h' hf hf'
  go_enter Tryz.func237, Tryz.ntmps237
  go_wp2_with fail
  go_ret
  exact ⟨by rw [HFF.out]; rfl, Below.refl _ _⟩
theorem sameLocals_o : SmS shLocals 200 := by
 intro X Y vs us lo hi lo' hi' w h h' hhi hhi' hf hf'
 obtain ⟨ANS, hANS⟩ : ∃ b, b = sameB X Y := ⟨_, rfl⟩
 rw [← hANS]
 obtain ⟨x0, x1, x2, x3⟩ := X
 obtain ⟨y0, y1, y2, y3⟩ := Y
 obtain ⟨ft0, ft1, ft2, ft3⟩ := hf
 obtain ⟨gt0, gt1, gt2, gt3⟩ := hf'
 have HANS := Lib.hid hANS; clear hANS
 obtain ⟨u0, ru0, eu0, k0, u1, ru1, eu1, k1, u2, ru2, eu2, k2, k3⟩ := h
 generalize ru2 = u3 at *
 obtain rfl := (show u0 = [.int .i64 x0] from k0)
 have qk1 := k1; obtain ⟨A1, c1, rfl, _⟩ := qk1
 have qk2 := k2; obtain ⟨A2, c2, rfl, _⟩ := qk2
 have qk3 := k3; obtain ⟨A3, c3, rfl, _⟩ := qk3
 have HG := Lib.hid (show ∀ (W : World) (b : Nat) (t : TypeId), Blk W b t vs.toArray → W.cell? ⟨b, 0, none⟩ = some (.int .i64 x0) ∧ W.cell? ⟨b, 1, none⟩ = some (.slice A1 x1.length c1) ∧ W.cell? ⟨b, 2, none⟩ = some (.slice A2 x2.length c2) ∧ W.cell? ⟨b, 3, none⟩ = some (.slice A3 x3.length c3) from fun W b t hB => by
  have q := blk_all hB
  obtain ⟨p0, q⟩ := rsp eu0 rfl q
  obtain ⟨p1, q⟩ := rsp eu1 rfl q
  obtain ⟨p2, q⟩ := rsp eu2 rfl q
  exact ⟨rng_one p0, rng_one p1, rng_one p2, rng_one q⟩)
 clear eu0 eu1 eu2
 obtain ⟨v0, rv0, ev0, l0, v1, rv1, ev1, l1, v2, rv2, ev2, l2, l3⟩ := h'
 generalize rv2 = v3 at *
 obtain rfl := (show v0 = [.int .i64 y0] from l0)
 have ql1 := l1; obtain ⟨B1, d1, rfl, _⟩ := ql1
 have ql2 := l2; obtain ⟨B2, d2, rfl, _⟩ := ql2
 have ql3 := l3; obtain ⟨B3, d3, rfl, _⟩ := ql3
 have HH := Lib.hid (show ∀ (W : World) (b : Nat) (t : TypeId), Blk W b t us.toArray → W.cell? ⟨b, 0, none⟩ = some (.int .i64 y0) ∧ W.cell? ⟨b, 1, none⟩ = some (.slice B1 y1.length d1) ∧ W.cell? ⟨b, 2, none⟩ = some (.slice B2 y2.length d2) ∧ W.cell? ⟨b, 3, none⟩ = some (.slice B3 y3.length d3) from fun W b t hB => by
  have q := blk_all hB
  obtain ⟨p0, q⟩ := rsp ev0 rfl q
  obtain ⟨p1, q⟩ := rsp ev1 rfl q
  obtain ⟨p2, q⟩ := rsp ev2 rfl q
  exact ⟨rng_one p0, rng_one p1, rng_one p2, rng_one q⟩)
 clear ev0 ev1 ev2
 have R0 := (((((((((Stand.nil w).ad (Sh.row 359 shBind).R [.slice A1 x1.length c1] x1 hhi k1 (Sh.row 359 shBind).R_keep).ad (Sh.row 353 shCell).R [.slice A2 x2.length c2] x2 hhi k2 (Sh.row 353 shCell).R_keep).ad (Sh.row 356 shLevel).R [.slice A3 x3.length c3] x3 hhi k3 (Sh.row 356 shLevel).R_keep).ad (Sh.row 359 shBind).R [.slice B1 y1.length d1] y1 hhi' l1 (Sh.row 359 shBind).R_keep).ad (Sh.row 353 shCell).R [.slice B2 y2.length d2] y2 hhi' l2 (Sh.row 353 shCell).R_keep).ad (Sh.row 356 shLevel).R [.slice B3 y3.length d3] y3 hhi' l3 (Sh.row 356 shLevel).R_keep).box 150 vs.toArray).box 150 us.toArray)
 rw [heap_alloc_size1] at R0
 have HR0 := Lib.hid R0
 clear R0 k1 l1 k2 l2 k3 l3
 go_enter Tryz.func200, Tryz.ntmps200
 have f0 := (HG.out _ _ _ (HR0.out.get 1 rfl)).1
 have g0 := (HH.out _ _ _ (HR0.out.get 0 rfl)).1
 have f1 := (HG.out _ _ _ (HR0.out.get 1 rfl)).2.1
 have g1 := (HH.out _ _ _ (HR0.out.get 0 rfl)).2.1
 by_cases hne : x0 = y0
 rotate_left
 ·have HF := nf (fun X : TyLocals => X.1) HANS hne
  have hq : (x0 == y0) = false := beq_eq_false_iff_ne.2 hne
  clear hne
  go_wp2_with fail
  go_ret
  exact ⟨by rw [HF.out]; rfl, HR0.out.1⟩
 subst hne
 go_wp2_with fail
 refine (eqlBind A1 B1 c1 d1 x1 y1 lo hi lo' hi' _ (HR0.out.get 7 rfl) (HR0.out.get 4 rfl) (HR0.out.le 7 rfl) (HR0.out.le 4 rfl) ft1.1 gt1.1).mono ?_
 rintro e1 w1 ⟨rfl, hb1⟩
 have HR1 := Lib.hid (HR0.out.below hb1)
 clear hb1 HR0  f0 g0 f1 g1
 by_cases hne : x1 = y1
 rotate_left
 ·rw [same_f hne]
  have HF := nf (fun X : TyLocals => X.2.1) HANS hne
  clear hne
  go_wp2_with fail
  go_ret
  exact ⟨by rw [HF.out]; rfl, HR1.out.1⟩
 rw [same_t hne]
 subst hne
 have f2 := (HG.out _ _ _ (HR1.out.get 1 rfl)).2.2.1
 have g2 := (HH.out _ _ _ (HR1.out.get 0 rfl)).2.2.1
 go_wp2_with fail
 refine (eqfCell A2 B2 c2 d2 x2 y2 lo hi lo' hi' _ (HR1.out.get 6 rfl) (HR1.out.get 3 rfl) (HR1.out.le 6 rfl) (HR1.out.le 3 rfl) ft2 gt2).mono ?_
 rintro e2 w2 ⟨rfl, hb2⟩
 have HR2 := Lib.hid (HR1.out.below hb2)
 clear hb2 HR1  f2 g2
 by_cases hne : x2 = y2
 rotate_left
 ·rw [same_f hne]
  have HF := nf (fun X : TyLocals => X.2.2.1) HANS hne
  clear hne
  go_wp2_with fail
  go_ret
  exact ⟨by rw [HF.out]; rfl, HR2.out.1⟩
 rw [same_t hne]
 subst hne
 have f3 := (HG.out _ _ _ (HR2.out.get 1 rfl)).2.2.2
 have g3 := (HH.out _ _ _ (HR2.out.get 0 rfl)).2.2.2
 go_wp2_with fail
 refine (eqfLevel A3 B3 c3 d3 x3 y3 lo hi lo' hi' _ (HR2.out.get 5 rfl) (HR2.out.get 2 rfl) (HR2.out.le 5 rfl) (HR2.out.le 2 rfl) ft3 gt3).mono ?_
 rintro e3 w3 ⟨rfl, hb3⟩
 have HR3 := Lib.hid (HR2.out.below hb3)
 clear hb3 HR2  f3 g3
 by_cases hne : x3 = y3
 rotate_left
 ·rw [same_f hne]
  have HF := nf (fun X : TyLocals => X.2.2.2) HANS hne
  clear hne
  go_wp2_with fail
  go_ret
  exact ⟨by rw [HF.out]; rfl, HR3.out.1⟩
 rw [same_t hne]
 subst hne
 have HT := Lib.hid (HANS.out.trans (same_t rfl))
 go_wp2_with fail
 go_ret
 exact ⟨by rw [HT.out]; rfl, HR3.out.1⟩
end Go.Proofs.YtgnmollbnopigaaGreat
