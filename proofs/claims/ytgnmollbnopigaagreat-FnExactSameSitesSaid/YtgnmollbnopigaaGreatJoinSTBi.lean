/- Comparisons, both sides. Printed by gen_same2.py. -/
import Derived.Test.YtgnmollbnopigaaGreatJoinSTBd
import Derived.Test.YtgnmollbnopigaaGreatJoinSTBe
set_option maxHeartbeats 16000000
set_option maxRecDepth 100000
namespace Go.Proofs.YtgnmollbnopigaaGreat
open Go.RowKit
theorem eqfTrigger : SmF 229 shTrigger 139 140 := by
 intro A B c d xs ys lo hi lo' hi' w h h' hhi hhi' hf hf'
 obtain ⟨ANS, hANS⟩ : ∃ b, b = sameB xs ys := ⟨_, rfl⟩
 rw [← hANS]
 have HANS := Lib.hid hANS; clear hANS
 have hn := hf.1
 by_cases hl : xs.length = ys.length
 ·have HA := Lib.hid h; have HA' := Lib.hid h'; have HL := Lib.hid hl; have HF := Lib.hid hf.2; have HF' := Lib.hid hf'.2
  rw [← hl] at HA' ⊢
  clear h h' hl hf hf'
  go_enter Tryz.func139, Tryz.ntmps139
  go_wp2_with fail
  go_loopw [17] (fun i wr => ∃ k : Nat, k ≤ xs.length ∧ i = .int .i64 k ∧ Hid (xs.take k = ys.take k) ∧ Below w.heap.size w wr) (fun i _ => xs.length - (intOf i).toNat)
  case atStart => exact ⟨0, Nat.zero_le _, rfl, Lib.hid rfl, Below.refl _ _⟩
  case round =>
   obtain ⟨k, hk, rfl, htk, hb⟩ := hrel
   by_cases hlt : k < xs.length
   ·have hly : k < ys.length := by have := HL.out; omega
    obtain ⟨b, off, rfl, hb1, hb2, us, hc, hX⟩ := row_at ((Sh.row 229 shTrigger).R_below HA.out hb hhi) hlt
    obtain ⟨b', off', rfl, hb1', hb2', us', hc', hX'⟩ := row_at ((Sh.row 229 shTrigger).R_below HA'.out hb hhi') hlt
    have HST := Lib.hid (fun he => take_step (d := shTrigger.d) htk.out hlt HL.out he)
    have HNE := Lib.hid (fun he => ne_at (xs := xs) (ys := ys) (d := shTrigger.d) (k := k) he)
    have HX := Lib.hid (HF.out _ (getD_in (d := shTrigger.d) hlt)); have HX' := Lib.hid (HF'.out _ (getD_in (d := shTrigger.d) hly))
    generalize xs.getD k shTrigger.d = X at *
    generalize ys.getD k shTrigger.d = Y at *
    have hsz := hb.size
    have hlu := shTrigger.R_len hX; have hlu' := shTrigger.R_len hX'
    obtain ⟨HC, HZ, HS, HO⟩ := elF (P := Tryz.prog) sizeITrigger hc hX
    obtain ⟨HC', HZ', HS', HO'⟩ := elF (P := Tryz.prog) sizeITrigger hc' hX'
    have HT := Lib.hid (there_blk (n := us.toArray.size) (o := 0) (Blk.new wr 229 zz5) (by rw [List.size_toArray, hlu]; exact Nat.le_refl _))
    have HR := Lib.hid hX; have HR' := Lib.hid hX'; have HB := Lib.hid hb
    obtain ⟨hbl, hr1, hz5⟩ := cpyF HT.out
    have HBL := Lib.hid hbl; have HR1 := Lib.hid hr1
    clear hb hX hX' hc hc' htk hbl hr1
    go_upto_region 6 with (first | fail | (refine wlg b (off + k * 7) us HC.out Tryz.underlying229 HZ.out ?_) | (refine wpList_store_mid rfl _ _ _ rfl wr.heap.size 0 us.toArray rfl rfl HT.out HS.out HO.out ?_))
    clear HT HS HO
    generalize (wr.alloc (.cells zz5 229)).setCells wr.heap.size 0 us = w5 at *
    have HC5 := Lib.hid (rng_below HC'.out HBL.out (by omega))
    have HT := Lib.hid (there_blk (n := us'.toArray.size) (o := 0) (Blk.new w5 229 zz5) (by rw [List.size_toArray, hlu']; exact Nat.le_refl _))
    have hbl : Below w5.heap.size w5 ((w5.alloc (.cells zz5 229)).setCells w5.heap.size 0 us') := ((Below.refl _ _).alloc (Nat.le_refl _) _).trans ((setCells_out w5.heap.size us' 0 (w5.alloc (.cells zz5 229))).1.below1 (Nat.le_refl _) (by simp))
    have hr2 : ((w5.alloc (.cells zz5 229)).setCells w5.heap.size 0 us').rangeAt w5.heap.size 0 us' := World.rangeAt_setCells_same _ _ _ _ (by simpa using HT.out)
    have HBM := Lib.hid hbl; have HR2 := Lib.hid hr2; have HQ1 := Lib.hid (rng_below HR1.out hbl (by omega))
    clear hbl hr2 HC HC' HR1
    go_upto_region 7 with (first | fail | (refine wlg b' (off' + k * 7) us' HC5.out Tryz.underlying229 HZ'.out ?_) | (refine wpList_store_mid rfl _ _ _ rfl w5.heap.size 0 us'.toArray rfl rfl HT.out HS'.out HO'.out ?_))
    clear HT HS' HO' HC5
    have HBB := Lib.hid (HBL.out.trans (HBM.out.mono (by omega)))
    generalize (w5.alloc (.cells zz5 229)).setCells w5.heap.size 0 us' = w6 at *
    have hs6 := HBB.out.size
    go_wp2_with (first | fail | (refine wlg wr.heap.size 0 us HQ1.out Tryz.underlying229 HZ.out ?_) | (refine wlg w5.heap.size 0 us' HR2.out Tryz.underlying229 HZ'.out ?_))
    refine (sameTrigger_o X Y us us' lo hi lo' hi' w6 (shTrigger.R_below HR.out HBB.out (by omega)) (shTrigger.R_below HR'.out HBB.out (by omega)) (by omega) (by omega) HX.out HX'.out).mono ?_
    rintro e7 w7 ⟨rfl, hb7⟩
    have HD := Lib.hid (HB.out.trans ((HBB.out.mono hsz).trans (hb7.mono (by omega))))
    clear hb7 HQ1 HR2
    by_cases hxy : X = Y
    ·have HS2 := Lib.hid (HST.out hxy)
     rw [same_t hxy]
     go_wp2_with fail
     go_roundw
     case rel => exact ⟨k + 1, by omega, by go_num, HS2, HD.out⟩
     case measure => simp [intOf]; omega
    ·have HFF := Lib.hid (HANS.out.trans (same_f (HNE.out hxy)))
     rw [same_f hxy]
     clear hxy HST HNE
     go_wp2_with fail
     go_ret
     exact ⟨by rw [HFF.out]; rfl, HD.out⟩
   ·obtain rfl : k = xs.length := by omega
    have HB := Lib.hid hb; have HT := Lib.hid (HANS.out.trans (same_t (take_all htk.out HL.out))); clear hb htk
    go_wp2_with fail
    go_ret
    exact ⟨by rw [HT.out]; rfl, HB.out⟩
 ·have HFF := Lib.hid (HANS.out.trans (same_f (ne_of_len hl)))
  have hm := hf'.1
  have n1 : ((xs.length : Int) == (ys.length : Int)) = false := by rw [beq_eq_false_iff_ne]; omega
  have n2 : ((xs.length : Int) != (ys.length : Int)) = true := by rw [bne_iff_ne]; omega
  clear hl h h' hf hf'
  go_enter Tryz.func139, Tryz.ntmps139
  go_wp2_with fail
  go_ret
  exact ⟨by rw [HFF.out]; rfl, Below.refl _ _⟩
theorem eqfEntry : SmF 228 shEntry 137 138 := by
 intro A B c d xs ys lo hi lo' hi' w h h' hhi hhi' hf hf'
 obtain ⟨ANS, hANS⟩ : ∃ b, b = sameB xs ys := ⟨_, rfl⟩
 rw [← hANS]
 have HANS := Lib.hid hANS; clear hANS
 have hn := hf.1
 by_cases hl : xs.length = ys.length
 ·have HA := Lib.hid h; have HA' := Lib.hid h'; have HL := Lib.hid hl; have HF := Lib.hid hf.2; have HF' := Lib.hid hf'.2
  rw [← hl] at HA' ⊢
  clear h h' hl hf hf'
  go_enter Tryz.func137, Tryz.ntmps137
  go_wp2_with fail
  go_loopw [17] (fun i wr => ∃ k : Nat, k ≤ xs.length ∧ i = .int .i64 k ∧ Hid (xs.take k = ys.take k) ∧ Below w.heap.size w wr) (fun i _ => xs.length - (intOf i).toNat)
  case atStart => exact ⟨0, Nat.zero_le _, rfl, Lib.hid rfl, Below.refl _ _⟩
  case round =>
   obtain ⟨k, hk, rfl, htk, hb⟩ := hrel
   by_cases hlt : k < xs.length
   ·have hly : k < ys.length := by have := HL.out; omega
    obtain ⟨b, off, rfl, hb1, hb2, us, hc, hX⟩ := row_at ((Sh.row 228 shEntry).R_below HA.out hb hhi) hlt
    obtain ⟨b', off', rfl, hb1', hb2', us', hc', hX'⟩ := row_at ((Sh.row 228 shEntry).R_below HA'.out hb hhi') hlt
    have HST := Lib.hid (fun he => take_step (d := shEntry.d) htk.out hlt HL.out he)
    have HNE := Lib.hid (fun he => ne_at (xs := xs) (ys := ys) (d := shEntry.d) (k := k) he)
    have HX := Lib.hid (HF.out _ (getD_in (d := shEntry.d) hlt)); have HX' := Lib.hid (HF'.out _ (getD_in (d := shEntry.d) hly))
    generalize xs.getD k shEntry.d = X at *
    generalize ys.getD k shEntry.d = Y at *
    have hsz := hb.size
    have hlu := shEntry.R_len hX; have hlu' := shEntry.R_len hX'
    obtain ⟨HC, HZ, HS, HO⟩ := elF (P := Tryz.prog) sizeIEntry hc hX
    obtain ⟨HC', HZ', HS', HO'⟩ := elF (P := Tryz.prog) sizeIEntry hc' hX'
    have HT := Lib.hid (there_blk (n := us.toArray.size) (o := 0) (Blk.new wr 228 zz4) (by rw [List.size_toArray, hlu]; exact Nat.le_refl _))
    have HR := Lib.hid hX; have HR' := Lib.hid hX'; have HB := Lib.hid hb
    obtain ⟨hbl, hr1, hz5⟩ := cpyF HT.out
    have HBL := Lib.hid hbl; have HR1 := Lib.hid hr1
    clear hb hX hX' hc hc' htk hbl hr1
    go_upto_region 6 with (first | fail | (refine wlg b (off + k * 4) us HC.out Tryz.underlying228 HZ.out ?_) | (refine wpList_store_mid rfl _ _ _ rfl wr.heap.size 0 us.toArray rfl rfl HT.out HS.out HO.out ?_))
    clear HT HS HO
    generalize (wr.alloc (.cells zz4 228)).setCells wr.heap.size 0 us = w5 at *
    have HC5 := Lib.hid (rng_below HC'.out HBL.out (by omega))
    have HT := Lib.hid (there_blk (n := us'.toArray.size) (o := 0) (Blk.new w5 228 zz4) (by rw [List.size_toArray, hlu']; exact Nat.le_refl _))
    have hbl : Below w5.heap.size w5 ((w5.alloc (.cells zz4 228)).setCells w5.heap.size 0 us') := ((Below.refl _ _).alloc (Nat.le_refl _) _).trans ((setCells_out w5.heap.size us' 0 (w5.alloc (.cells zz4 228))).1.below1 (Nat.le_refl _) (by simp))
    have hr2 : ((w5.alloc (.cells zz4 228)).setCells w5.heap.size 0 us').rangeAt w5.heap.size 0 us' := World.rangeAt_setCells_same _ _ _ _ (by simpa using HT.out)
    have HBM := Lib.hid hbl; have HR2 := Lib.hid hr2; have HQ1 := Lib.hid (rng_below HR1.out hbl (by omega))
    clear hbl hr2 HC HC' HR1
    go_upto_region 7 with (first | fail | (refine wlg b' (off' + k * 4) us' HC5.out Tryz.underlying228 HZ'.out ?_) | (refine wpList_store_mid rfl _ _ _ rfl w5.heap.size 0 us'.toArray rfl rfl HT.out HS'.out HO'.out ?_))
    clear HT HS' HO' HC5
    have HBB := Lib.hid (HBL.out.trans (HBM.out.mono (by omega)))
    generalize (w5.alloc (.cells zz4 228)).setCells w5.heap.size 0 us' = w6 at *
    have hs6 := HBB.out.size
    go_wp2_with (first | fail | (refine wlg wr.heap.size 0 us HQ1.out Tryz.underlying228 HZ.out ?_) | (refine wlg w5.heap.size 0 us' HR2.out Tryz.underlying228 HZ'.out ?_))
    refine (sameEntry_o X Y us us' lo hi lo' hi' w6 (shEntry.R_below HR.out HBB.out (by omega)) (shEntry.R_below HR'.out HBB.out (by omega)) (by omega) (by omega) HX.out HX'.out).mono ?_
    rintro e7 w7 ⟨rfl, hb7⟩
    have HD := Lib.hid (HB.out.trans ((HBB.out.mono hsz).trans (hb7.mono (by omega))))
    clear hb7 HQ1 HR2
    by_cases hxy : X = Y
    ·have HS2 := Lib.hid (HST.out hxy)
     rw [same_t hxy]
     go_wp2_with fail
     go_roundw
     case rel => exact ⟨k + 1, by omega, by go_num, HS2, HD.out⟩
     case measure => simp [intOf]; omega
    ·have HFF := Lib.hid (HANS.out.trans (same_f (HNE.out hxy)))
     rw [same_f hxy]
     clear hxy HST HNE
     go_wp2_with fail
     go_ret
     exact ⟨by rw [HFF.out]; rfl, HD.out⟩
   ·obtain rfl : k = xs.length := by omega
    have HB := Lib.hid hb; have HT := Lib.hid (HANS.out.trans (same_t (take_all htk.out HL.out))); clear hb htk
    go_wp2_with fail
    go_ret
    exact ⟨by rw [HT.out]; rfl, HB.out⟩
 ·have HFF := Lib.hid (HANS.out.trans (same_f (ne_of_len hl)))
  have hm := hf'.1
  have n1 : ((xs.length : Int) == (ys.length : Int)) = false := by rw [beq_eq_false_iff_ne]; omega
  have n2 : ((xs.length : Int) != (ys.length : Int)) = true := by rw [bne_iff_ne]; omega
  clear hl h h' hf hf'
  go_enter Tryz.func137, Tryz.ntmps137
  go_wp2_with fail
  go_ret
  exact ⟨by rw [HFF.out]; rfl, Below.refl _ _⟩
theorem eqfRef : SmF 152 shRef 195 196 := by
 intro A B c d xs ys lo hi lo' hi' w h h' hhi hhi' hf hf'
 obtain ⟨ANS, hANS⟩ : ∃ b, b = sameB xs ys := ⟨_, rfl⟩
 rw [← hANS]
 have HANS := Lib.hid hANS; clear hANS
 have hn := hf.1
 by_cases hl : xs.length = ys.length
 ·have HA := Lib.hid h; have HA' := Lib.hid h'; have HL := Lib.hid hl; have HF := Lib.hid hf.2; have HF' := Lib.hid hf'.2
  rw [← hl] at HA' ⊢
  clear h h' hl hf hf'
  go_enter Tryz.func195, Tryz.ntmps195
  go_wp2_with fail
  go_loopw [17] (fun i wr => ∃ k : Nat, k ≤ xs.length ∧ i = .int .i64 k ∧ Hid (xs.take k = ys.take k) ∧ Below w.heap.size w wr) (fun i _ => xs.length - (intOf i).toNat)
  case atStart => exact ⟨0, Nat.zero_le _, rfl, Lib.hid rfl, Below.refl _ _⟩
  case round =>
   obtain ⟨k, hk, rfl, htk, hb⟩ := hrel
   by_cases hlt : k < xs.length
   ·have hly : k < ys.length := by have := HL.out; omega
    obtain ⟨b, off, rfl, hb1, hb2, us, hc, hX⟩ := row_at ((Sh.row 152 shRef).R_below HA.out hb hhi) hlt
    obtain ⟨b', off', rfl, hb1', hb2', us', hc', hX'⟩ := row_at ((Sh.row 152 shRef).R_below HA'.out hb hhi') hlt
    have HST := Lib.hid (fun he => take_step (d := shRef.d) htk.out hlt HL.out he)
    have HNE := Lib.hid (fun he => ne_at (xs := xs) (ys := ys) (d := shRef.d) (k := k) he)
    have HX := Lib.hid (HF.out _ (getD_in (d := shRef.d) hlt)); have HX' := Lib.hid (HF'.out _ (getD_in (d := shRef.d) hly))
    generalize xs.getD k shRef.d = X at *
    generalize ys.getD k shRef.d = Y at *
    have hsz := hb.size
    have hlu := shRef.R_len hX; have hlu' := shRef.R_len hX'
    obtain ⟨HC, HZ, HS, HO⟩ := elF (P := Tryz.prog) sizeIRef hc hX
    obtain ⟨HC', HZ', HS', HO'⟩ := elF (P := Tryz.prog) sizeIRef hc' hX'
    have HT := Lib.hid (there_blk (n := us.toArray.size) (o := 0) (Blk.new wr 152 #[.bool false, .string ⟨#[]⟩, .slice none 0 0]) (by rw [List.size_toArray, hlu]; exact Nat.le_refl _))
    have HR := Lib.hid hX; have HR' := Lib.hid hX'; have HB := Lib.hid hb
    obtain ⟨hbl, hr1, hz5⟩ := cpyF HT.out
    have HBL := Lib.hid hbl; have HR1 := Lib.hid hr1
    clear hb hX hX' hc hc' htk hbl hr1
    go_upto_region 6 with (first | fail | (refine wlg b (off + k * 3) us HC.out Tryz.underlying152 HZ.out ?_) | (refine wpList_store_mid rfl _ _ _ rfl wr.heap.size 0 us.toArray rfl rfl HT.out HS.out HO.out ?_))
    clear HT HS HO
    generalize (wr.alloc (.cells #[.bool false, .string ⟨#[]⟩, .slice none 0 0] 152)).setCells wr.heap.size 0 us = w5 at *
    have HC5 := Lib.hid (rng_below HC'.out HBL.out (by omega))
    have HT := Lib.hid (there_blk (n := us'.toArray.size) (o := 0) (Blk.new w5 152 #[.bool false, .string ⟨#[]⟩, .slice none 0 0]) (by rw [List.size_toArray, hlu']; exact Nat.le_refl _))
    have hbl : Below w5.heap.size w5 ((w5.alloc (.cells #[.bool false, .string ⟨#[]⟩, .slice none 0 0] 152)).setCells w5.heap.size 0 us') := ((Below.refl _ _).alloc (Nat.le_refl _) _).trans ((setCells_out w5.heap.size us' 0 (w5.alloc (.cells #[.bool false, .string ⟨#[]⟩, .slice none 0 0] 152))).1.below1 (Nat.le_refl _) (by simp))
    have hr2 : ((w5.alloc (.cells #[.bool false, .string ⟨#[]⟩, .slice none 0 0] 152)).setCells w5.heap.size 0 us').rangeAt w5.heap.size 0 us' := World.rangeAt_setCells_same _ _ _ _ (by simpa using HT.out)
    have HBM := Lib.hid hbl; have HR2 := Lib.hid hr2; have HQ1 := Lib.hid (rng_below HR1.out hbl (by omega))
    clear hbl hr2 HC HC' HR1
    go_upto_region 7 with (first | fail | (refine wlg b' (off' + k * 3) us' HC5.out Tryz.underlying152 HZ'.out ?_) | (refine wpList_store_mid rfl _ _ _ rfl w5.heap.size 0 us'.toArray rfl rfl HT.out HS'.out HO'.out ?_))
    clear HT HS' HO' HC5
    have HBB := Lib.hid (HBL.out.trans (HBM.out.mono (by omega)))
    generalize (w5.alloc (.cells #[.bool false, .string ⟨#[]⟩, .slice none 0 0] 152)).setCells w5.heap.size 0 us' = w6 at *
    have hs6 := HBB.out.size
    go_wp2_with (first | fail | (refine wlg wr.heap.size 0 us HQ1.out Tryz.underlying152 HZ.out ?_) | (refine wlg w5.heap.size 0 us' HR2.out Tryz.underlying152 HZ'.out ?_))
    refine (sameRef_o X Y us us' lo hi lo' hi' w6 (shRef.R_below HR.out HBB.out (by omega)) (shRef.R_below HR'.out HBB.out (by omega)) (by omega) (by omega) HX.out HX'.out).mono ?_
    rintro e7 w7 ⟨rfl, hb7⟩
    have HD := Lib.hid (HB.out.trans ((HBB.out.mono hsz).trans (hb7.mono (by omega))))
    clear hb7 HQ1 HR2
    by_cases hxy : X = Y
    ·have HS2 := Lib.hid (HST.out hxy)
     rw [same_t hxy]
     go_wp2_with fail
     go_roundw
     case rel => exact ⟨k + 1, by omega, by go_num, HS2, HD.out⟩
     case measure => simp [intOf]; omega
    ·have HFF := Lib.hid (HANS.out.trans (same_f (HNE.out hxy)))
     rw [same_f hxy]
     clear hxy HST HNE
     go_wp2_with fail
     go_ret
     exact ⟨by rw [HFF.out]; rfl, HD.out⟩
   ·obtain rfl : k = xs.length := by omega
    have HB := Lib.hid hb; have HT := Lib.hid (HANS.out.trans (same_t (take_all htk.out HL.out))); clear hb htk
    go_wp2_with fail
    go_ret
    exact ⟨by rw [HT.out]; rfl, HB.out⟩
 ·have HFF := Lib.hid (HANS.out.trans (same_f (ne_of_len hl)))
  have hm := hf'.1
  have n1 : ((xs.length : Int) == (ys.length : Int)) = false := by rw [beq_eq_false_iff_ne]; omega
  have n2 : ((xs.length : Int) != (ys.length : Int)) = true := by rw [bne_iff_ne]; omega
  clear hl h h' hf hf'
  go_enter Tryz.func195, Tryz.ntmps195
  go_wp2_with fail
  go_ret
  exact ⟨by rw [HFF.out]; rfl, Below.refl _ _⟩
theorem iSameTriggers : SmR 229 shTrigger 73 := by
 intro A B c d xs ys lo hi lo' hi' w h h' hhi hhi' hf hf'
 have HC := Lib.hid (eqfTrigger A B c d xs ys lo hi lo' hi' w h h' hhi hhi' hf hf')
 generalize sameB xs ys = ANS at *
 clear h h' hf hf'
 go_enter Tryz.func73, Tryz.ntmps73
 go_wp2_with fail
 refine HC.out.mono ?_
 rintro e1 w1 ⟨rfl, hb1⟩
 have HB := Lib.hid hb1; clear hb1 HC
 go_wp2_with fail
 go_ret
 exact ⟨rfl, HB.out⟩
theorem sameProgram_o : SmS shProgram 72 := by
 intro X Y vs us lo hi lo' hi' w h h' hhi hhi' hf hf'
 obtain ⟨ANS, hANS⟩ : ∃ b, b = sameB X Y := ⟨_, rfl⟩
 rw [← hANS]
 obtain ⟨x0, x1⟩ := X
 obtain ⟨y0, y1⟩ := Y
 obtain ⟨ft0, ft1⟩ := hf
 obtain ⟨gt0, gt1⟩ := hf'
 have HANS := Lib.hid hANS; clear hANS
 obtain ⟨u0, ru0, eu0, k0, k1⟩ := h
 generalize ru0 = u1 at *
 have qk0 := k0; obtain ⟨A0, c0, rfl, _⟩ := qk0
 have qk1 := k1; obtain ⟨A1, c1, rfl, _⟩ := qk1
 have HG := Lib.hid (show ∀ (W : World) (b : Nat) (t : TypeId), Blk W b t vs.toArray → W.cell? ⟨b, 0, none⟩ = some (.slice A0 x0.length c0) ∧ W.cell? ⟨b, 1, none⟩ = some (.slice A1 x1.length c1) from fun W b t hB => by
  have q := blk_all hB
  obtain ⟨p0, q⟩ := rsp eu0 rfl q
  exact ⟨rng_one p0, rng_one q⟩)
 clear eu0
 obtain ⟨v0, rv0, ev0, l0, l1⟩ := h'
 generalize rv0 = v1 at *
 have ql0 := l0; obtain ⟨B0, d0, rfl, _⟩ := ql0
 have ql1 := l1; obtain ⟨B1, d1, rfl, _⟩ := ql1
 have HH := Lib.hid (show ∀ (W : World) (b : Nat) (t : TypeId), Blk W b t us.toArray → W.cell? ⟨b, 0, none⟩ = some (.slice B0 y0.length d0) ∧ W.cell? ⟨b, 1, none⟩ = some (.slice B1 y1.length d1) from fun W b t hB => by
  have q := blk_all hB
  obtain ⟨p0, q⟩ := rsp ev0 rfl q
  exact ⟨rng_one p0, rng_one q⟩)
 clear ev0
 have R0 := (((((((Stand.nil w).ad (Sh.row 226 shIns).R [.slice A0 x0.length c0] x0 hhi k0 (Sh.row 226 shIns).R_keep).ad (Sh.row 228 shEntry).R [.slice A1 x1.length c1] x1 hhi k1 (Sh.row 228 shEntry).R_keep).ad (Sh.row 226 shIns).R [.slice B0 y0.length d0] y0 hhi' l0 (Sh.row 226 shIns).R_keep).ad (Sh.row 228 shEntry).R [.slice B1 y1.length d1] y1 hhi' l1 (Sh.row 228 shEntry).R_keep).box 62 vs.toArray).box 62 us.toArray)
 rw [heap_alloc_size1] at R0
 have HR0 := Lib.hid R0
 clear R0 k0 l0 k1 l1
 go_enter Tryz.func72, Tryz.ntmps72
 have f0 := (HG.out _ _ _ (HR0.out.get 1 rfl)).1
 have g0 := (HH.out _ _ _ (HR0.out.get 0 rfl)).1
 go_wp2_with fail
 refine (eqlIns A0 B0 c0 d0 x0 y0 lo hi lo' hi' _ (HR0.out.get 5 rfl) (HR0.out.get 3 rfl) (HR0.out.le 5 rfl) (HR0.out.le 3 rfl) ft0.1 gt0.1).mono ?_
 rintro e0 w0 ⟨rfl, hb0⟩
 have HR1 := Lib.hid (HR0.out.below hb0)
 clear hb0 HR0  f0 g0
 by_cases hne : x0 = y0
 rotate_left
 ·rw [same_f hne]
  have HF := nf (fun X : TyProgram => X.1) HANS hne
  clear hne
  go_wp2_with fail
  go_ret
  exact ⟨by rw [HF.out]; rfl, HR1.out.1⟩
 rw [same_t hne]
 subst hne
 have f1 := (HG.out _ _ _ (HR1.out.get 1 rfl)).2
 have g1 := (HH.out _ _ _ (HR1.out.get 0 rfl)).2
 go_wp2_with fail
 refine (eqfEntry A1 B1 c1 d1 x1 y1 lo hi lo' hi' _ (HR1.out.get 4 rfl) (HR1.out.get 2 rfl) (HR1.out.le 4 rfl) (HR1.out.le 2 rfl) ft1 gt1).mono ?_
 rintro e1 w1 ⟨rfl, hb1⟩
 have HR2 := Lib.hid (HR1.out.below hb1)
 clear hb1 HR1  f1 g1
 by_cases hne : x1 = y1
 rotate_left
 ·rw [same_f hne]
  have HF := nf (fun X : TyProgram => X.2) HANS hne
  clear hne
  go_wp2_with fail
  go_ret
  exact ⟨by rw [HF.out]; rfl, HR2.out.1⟩
 rw [same_t hne]
 subst hne
 have HT := Lib.hid (HANS.out.trans (same_t rfl))
 go_wp2_with fail
 go_ret
 exact ⟨by rw [HT.out]; rfl, HR2.out.1⟩
end Go.Proofs.YtgnmollbnopigaaGreat
