/- Comparisons, both sides. Printed by gen_same2.py. -/
import Derived.Test.YtgnmollbnopigaaGreatJoinSTBl
import Derived.Test.YtgnmollbnopigaaGreatJoinSTBg
import Derived.Test.YtgnmollbnopigaaGreatJoinSTBf
import Derived.Test.YtgnmollbnopigaaGreatJoinSTAh
import Derived.Deep.DeepCutAuto
import Derived.Deep.CutBlock
set_option maxHeartbeats 16000000
set_option maxRecDepth 100000
namespace Go.Proofs.YtgnmollbnopigaaGreat
open Go.RowKit
theorem l23SameImages_r : SmR 284 shImage 95 := by
 intro A B c d xs ys lo hi lo' hi' w h h' hhi hhi' hf hf'
 obtain ⟨ANS, hANS⟩ : ∃ b, b = sameB xs ys := ⟨_, rfl⟩
 rw [← hANS]
 have HANS := Lib.hid hANS; clear hANS
 have hn := hf.1
 by_cases hl : xs.length = ys.length
 ·have HA := Lib.hid h; have HA' := Lib.hid h'; have HL := Lib.hid hl; have HF := Lib.hid hf.2; have HF' := Lib.hid hf'.2
  rw [← hl] at HA' ⊢
  clear h h' hl hf hf'
  go_enter Tryz.func95, Tryz.ntmps95
  (try dsimp only [List.append])
  go_wp2_with fail
  go_loopw [5] (fun i wr => ∃ k : Nat, k ≤ xs.length ∧ i = .int .i64 k ∧ Hid (xs.take k = ys.take k) ∧ Below w.heap.size w wr) (fun i _ => xs.length - (intOf i).toNat)
  case atStart => exact ⟨0, Nat.zero_le _, rfl, Lib.hid rfl, Below.refl _ _⟩
  case round =>
   obtain ⟨k, hk, rfl, htk, hb⟩ := hrel
   by_cases hlt : k < xs.length
   ·have hly : k < ys.length := by have := HL.out; omega
    obtain ⟨b, off, rfl, hb1, hb2, us, hc, hX⟩ := row_at ((Sh.row 284 shImage).R_below HA.out hb hhi) hlt
    obtain ⟨b', off', rfl, hb1', hb2', us', hc', hX'⟩ := row_at ((Sh.row 284 shImage).R_below HA'.out hb hhi') hlt
    have HST := Lib.hid (fun he => take_step (d := shImage.d) htk.out hlt HL.out he)
    have HNE := Lib.hid (fun he => ne_at (xs := xs) (ys := ys) (d := shImage.d) (k := k) he)
    have HX := Lib.hid (HF.out _ (getD_in (d := shImage.d) hlt)); have HX' := Lib.hid (HF'.out _ (getD_in (d := shImage.d) hly))
    generalize xs.getD k shImage.d = X at *
    generalize ys.getD k shImage.d = Y at *
    have hsz := hb.size
    have hlu := shImage.R_len hX; have hlu' := shImage.R_len hX'
    obtain ⟨HC, HZ, HS, HO⟩ := elF (P := Tryz.prog) sizeIImage hc hX
    obtain ⟨HC', HZ', HS', HO'⟩ := elF (P := Tryz.prog) sizeIImage hc' hX'
    have HR := Lib.hid hX; have HR' := Lib.hid hX'; have HB := Lib.hid hb
    clear hb hX hX' hc hc' htk
    go_upto_region 6 with fail
    go_cut [6, 7] (fun p6 p7 wc => ∃ g1 g2 : Nat, p6 = .pointer (some ⟨g1, 0, none⟩) ∧ p7 = .pointer (some ⟨g2, 0, none⟩) ∧ wc.rangeAt g1 0 us ∧ wc.rangeAt g2 0 us' ∧ g1 < wc.heap.size ∧ g2 < wc.heap.size ∧ Below wr.heap.size wr wc)
    case first =>
     have hzb : b < wr.heap.size ∧ b' < wr.heap.size := ⟨by omega, by omega⟩
     refine AnyT.region (fun _ => false) (fun W => W.rangeAt b (off + k * 6) us ∧ W.rangeAt b' (off' + k * 6) us') (by kernel_rfl) ⟨HC.out, HC'.out⟩ (fun hHeld => ?_)
     have C1 := Lib.hid (show wr.drew.rangeAt b (off + k * 6) us from HC.out); have C2 := Lib.hid (show wr.drew.rangeAt b' (off' + k * 6) us' from HC'.out)
     have HW := Lib.hid (show Below wr.heap.size wr wr.drew from (Below.refl _ _).drew)
     have hzd : wr.drew.heap.size ≤ wr.heap.size ∧ wr.heap.size ≤ wr.drew.heap.size := ⟨Nat.le_refl _, Nat.le_refl _⟩
     clear HC HC'
     generalize wr.drew = v at *
     (refine AnyT.ta 0 19 ?_; simp only [Act.put, za, zb, zc])
     (refine AnyT.ta 1 20 ?_; simp only [Act.put, za, zb, zc])
     (refine AnyT.ta 2 21 ?_; simp only [Act.put, za, zb, zc])
     refine AnyT.tx 3 22 (.agg us.toArray) (fun W hS => exec_loadMid _ _ rfl b (off + k * 6) rfl us hS.1 Tryz.underlying284 rfl HZ.out) ?_
     simp only [Go.Act.put, za, zb, zc]
     (refine AnyT.ta 4 23 ?_; simp only [Act.put, za, zb, zc])
     (refine AnyT.ta 5 24 ?_; simp only [Act.put, za, zb, zc])
     (refine AnyT.ta 6 25 ?_; simp only [Act.put, za, zb, zc])
     refine AnyT.tx 7 26 (.agg us'.toArray) (fun W hS => exec_loadMid _ _ rfl b' (off' + k * 6) rfl us' hS.2 Tryz.underlying284 rfl HZ'.out) ?_
     simp only [Go.Act.put, za, zb, zc]
     refine AnyT.pair (i := 8) (j := 9) (by kernel_rfl) rfl rfl (fun K hK => ?_) (fun K hK => ?_)
     ·skip
      go_simp
      have HBa := Lib.hid ((Below.refl v.heap.size v).alloc (Nat.le_refl _) (.cells zz14 284))
      have hn1 : (v.alloc (.cells zz14 284)).heap.size ≤ v.heap.size + 1 ∧ v.heap.size + 1 ≤ (v.alloc (.cells zz14 284)).heap.size := by simp
      have B6 := Lib.hid (Blk.new v 284 zz14)
      have C1 := Lib.hid (rng_below C1.out HBa.out (by omega)); have C2 := Lib.hid (rng_below C2.out HBa.out (by omega))
      have HW := Lib.hid (HW.out.trans (HBa.out.mono (by omega)))
      refine hK.out _ _ ⟨C1.out, C2.out⟩ (fun hHeld => ?_)
      clear hK K HBa
      (try simp only [Go.Act.put, za, zb, zc])
      generalize v.alloc (.cells zz14 284) = v1 at *
      ((refine AnyT.one (i := 9) (by kernel_rfl) rfl (fun K hK => ?_)))
      go_simp
      have HBa := Lib.hid ((Below.refl v1.heap.size v1).alloc (Nat.le_refl _) (.cells zz14 284))
      have hn2 : (v1.alloc (.cells zz14 284)).heap.size ≤ v1.heap.size + 1 ∧ v1.heap.size + 1 ≤ (v1.alloc (.cells zz14 284)).heap.size := by simp
      have B7 := Lib.hid (Blk.new v1 284 zz14)
      have C1 := Lib.hid (rng_below C1.out HBa.out (by omega)); have C2 := Lib.hid (rng_below C2.out HBa.out (by omega))
      have B6 := Lib.hid (B6.out.below HBa.out (by omega))
      have HW := Lib.hid (HW.out.trans (HBa.out.mono (by omega)))
      refine hK.out _ _ ⟨C1.out, C2.out⟩ (fun hHeld => ?_)
      clear hK K HBa
      (try simp only [Go.Act.put, za, zb, zc])
      generalize v1.alloc (.cells zz14 284) = v2 at *
      ((refine AnyT.one (i := 10) (by kernel_rfl) rfl (fun K hK => ?_)))
      rw [if_pos (by rfl)]
      have HT := Lib.hid (there_blk (n := us.toArray.size) (o := 0) B6.out (by rw [List.size_toArray, hlu]; exact Nat.le_refl _))
      refine wp_store_mid 284 _ _ rfl (v.heap.size) 0 us.toArray rfl rfl HT.out HS.out HO.out ?_
      have HBs := Lib.hid (setCells_out (v.heap.size) us 0 v2).1
      have hn3 : (v2.setCells (v.heap.size) 0 us).heap.size ≤ v2.heap.size ∧ v2.heap.size ≤ (v2.setCells (v.heap.size) 0 us).heap.size := by rw [(setCells_out _ _ _ _).2]; exact ⟨Nat.le_refl _, Nat.le_refl _⟩
      have R6 := Lib.hid (show (v2.setCells (v.heap.size) 0 us).rangeAt (v.heap.size) 0 us from World.rangeAt_setCells_same _ _ _ _ (by simpa using HT.out))
      have C1 := Lib.hid (rng_out C1.out HBs.out (by omega) (by simp; omega)); have C2 := Lib.hid (rng_out C2.out HBs.out (by omega) (by simp; omega))
      have B7 := Lib.hid (B7.out.outOf HBs.out (by omega))
      have HW := Lib.hid (HW.out.trans (HBs.out.below1 (B := wr.heap.size) (by omega) (by omega)))
      refine hK.out _ _ ⟨C1.out, C2.out⟩ (fun hHeld => ?_)
      clear hK K HBs HT B6
      (try simp only [Go.Act.put])
      generalize v2.setCells (v.heap.size) 0 us = v3 at *
      ((refine AnyT.one (i := 11) (by kernel_rfl) rfl (fun K hK => ?_)))
      rw [if_pos (by rfl)]
      have HT := Lib.hid (there_blk (n := us'.toArray.size) (o := 0) B7.out (by rw [List.size_toArray, hlu']; exact Nat.le_refl _))
      refine wp_store_mid 284 _ _ rfl (v1.heap.size) 0 us'.toArray rfl rfl HT.out HS'.out HO'.out ?_
      have HBs := Lib.hid (setCells_out (v1.heap.size) us' 0 v3).1
      have hn4 : (v3.setCells (v1.heap.size) 0 us').heap.size ≤ v3.heap.size ∧ v3.heap.size ≤ (v3.setCells (v1.heap.size) 0 us').heap.size := by rw [(setCells_out _ _ _ _).2]; exact ⟨Nat.le_refl _, Nat.le_refl _⟩
      have R7 := Lib.hid (show (v3.setCells (v1.heap.size) 0 us').rangeAt (v1.heap.size) 0 us' from World.rangeAt_setCells_same _ _ _ _ (by simpa using HT.out))
      have C1 := Lib.hid (rng_out C1.out HBs.out (by omega) (by simp; omega)); have C2 := Lib.hid (rng_out C2.out HBs.out (by omega) (by simp; omega))
      have R6 := Lib.hid (rng_out R6.out HBs.out (by omega) (by simp; omega))
      have HW := Lib.hid (HW.out.trans (HBs.out.below1 (B := wr.heap.size) (by omega) (by omega)))
      refine hK.out _ _ ⟨C1.out, C2.out⟩ (fun hHeld => ?_)
      clear hK K HBs HT B7
      (try simp only [Go.Act.put])
      generalize v3.setCells (v1.heap.size) 0 us' = v4 at *
      refine AnyT.done (by kernel_rfl) ?_ _
      clear hHeld C1 C2
      go_wp2_with fail
      go_meet
      exact ⟨v.heap.size, v1.heap.size, rfl, rfl, R6.out, R7.out, by omega, by omega, HW.out⟩
     ·skip
      go_simp
      have HBa := Lib.hid ((Below.refl v.heap.size v).alloc (Nat.le_refl _) (.cells zz14 284))
      have hn5 : (v.alloc (.cells zz14 284)).heap.size ≤ v.heap.size + 1 ∧ v.heap.size + 1 ≤ (v.alloc (.cells zz14 284)).heap.size := by simp
      have B7 := Lib.hid (Blk.new v 284 zz14)
      have C1 := Lib.hid (rng_below C1.out HBa.out (by omega)); have C2 := Lib.hid (rng_below C2.out HBa.out (by omega))
      have HW := Lib.hid (HW.out.trans (HBa.out.mono (by omega)))
      refine hK.out _ _ ⟨C1.out, C2.out⟩ (fun hHeld => ?_)
      clear hK K HBa
      (try simp only [Go.Act.put, za, zb, zc])
      generalize v.alloc (.cells zz14 284) = v5 at *
      ((refine AnyT.one (i := 8) (by kernel_rfl) rfl (fun K hK => ?_)))
      go_simp
      have HBa := Lib.hid ((Below.refl v5.heap.size v5).alloc (Nat.le_refl _) (.cells zz14 284))
      have hn6 : (v5.alloc (.cells zz14 284)).heap.size ≤ v5.heap.size + 1 ∧ v5.heap.size + 1 ≤ (v5.alloc (.cells zz14 284)).heap.size := by simp
      have B6 := Lib.hid (Blk.new v5 284 zz14)
      have C1 := Lib.hid (rng_below C1.out HBa.out (by omega)); have C2 := Lib.hid (rng_below C2.out HBa.out (by omega))
      have B7 := Lib.hid (B7.out.below HBa.out (by omega))
      have HW := Lib.hid (HW.out.trans (HBa.out.mono (by omega)))
      refine hK.out _ _ ⟨C1.out, C2.out⟩ (fun hHeld => ?_)
      clear hK K HBa
      (try simp only [Go.Act.put, za, zb, zc])
      generalize v5.alloc (.cells zz14 284) = v6 at *
      ((refine AnyT.one (i := 10) (by kernel_rfl) rfl (fun K hK => ?_)))
      rw [if_pos (by rfl)]
      have HT := Lib.hid (there_blk (n := us.toArray.size) (o := 0) B6.out (by rw [List.size_toArray, hlu]; exact Nat.le_refl _))
      refine wp_store_mid 284 _ _ rfl (v5.heap.size) 0 us.toArray rfl rfl HT.out HS.out HO.out ?_
      have HBs := Lib.hid (setCells_out (v5.heap.size) us 0 v6).1
      have hn7 : (v6.setCells (v5.heap.size) 0 us).heap.size ≤ v6.heap.size ∧ v6.heap.size ≤ (v6.setCells (v5.heap.size) 0 us).heap.size := by rw [(setCells_out _ _ _ _).2]; exact ⟨Nat.le_refl _, Nat.le_refl _⟩
      have R6 := Lib.hid (show (v6.setCells (v5.heap.size) 0 us).rangeAt (v5.heap.size) 0 us from World.rangeAt_setCells_same _ _ _ _ (by simpa using HT.out))
      have C1 := Lib.hid (rng_out C1.out HBs.out (by omega) (by simp; omega)); have C2 := Lib.hid (rng_out C2.out HBs.out (by omega) (by simp; omega))
      have B7 := Lib.hid (B7.out.outOf HBs.out (by omega))
      have HW := Lib.hid (HW.out.trans (HBs.out.below1 (B := wr.heap.size) (by omega) (by omega)))
      refine hK.out _ _ ⟨C1.out, C2.out⟩ (fun hHeld => ?_)
      clear hK K HBs HT B6
      (try simp only [Go.Act.put])
      generalize v6.setCells (v5.heap.size) 0 us = v7 at *
      ((refine AnyT.one (i := 11) (by kernel_rfl) rfl (fun K hK => ?_)))
      rw [if_pos (by rfl)]
      have HT := Lib.hid (there_blk (n := us'.toArray.size) (o := 0) B7.out (by rw [List.size_toArray, hlu']; exact Nat.le_refl _))
      refine wp_store_mid 284 _ _ rfl (v.heap.size) 0 us'.toArray rfl rfl HT.out HS'.out HO'.out ?_
      have HBs := Lib.hid (setCells_out (v.heap.size) us' 0 v7).1
      have hn8 : (v7.setCells (v.heap.size) 0 us').heap.size ≤ v7.heap.size ∧ v7.heap.size ≤ (v7.setCells (v.heap.size) 0 us').heap.size := by rw [(setCells_out _ _ _ _).2]; exact ⟨Nat.le_refl _, Nat.le_refl _⟩
      have R7 := Lib.hid (show (v7.setCells (v.heap.size) 0 us').rangeAt (v.heap.size) 0 us' from World.rangeAt_setCells_same _ _ _ _ (by simpa using HT.out))
      have C1 := Lib.hid (rng_out C1.out HBs.out (by omega) (by simp; omega)); have C2 := Lib.hid (rng_out C2.out HBs.out (by omega) (by simp; omega))
      have R6 := Lib.hid (rng_out R6.out HBs.out (by omega) (by simp; omega))
      have HW := Lib.hid (HW.out.trans (HBs.out.below1 (B := wr.heap.size) (by omega) (by omega)))
      refine hK.out _ _ ⟨C1.out, C2.out⟩ (fun hHeld => ?_)
      clear hK K HBs HT B7
      (try simp only [Go.Act.put])
      generalize v7.setCells (v.heap.size) 0 us' = v8 at *
      refine AnyT.done (by kernel_rfl) ?_ _
      clear hHeld C1 C2
      go_wp2_with fail
      go_meet
      exact ⟨v5.heap.size, v.heap.size, rfl, rfl, R6.out, R7.out, by omega, by omega, HW.out⟩
    obtain ⟨g1, g2, rfl, rfl, hq1, hq2, hz1, hz2, hbb⟩ := hcut
    have HBB := Lib.hid hbb; have HQ1 := Lib.hid hq1; have HR2 := Lib.hid hq2
    clear hq1 hq2 hbb HC HC' HS HS' HO HO'
    have hs6 := HBB.out.size
    have HD := Lib.hid (HB.out.trans (HBB.out.mono hsz))
    have hRX := shImage.R_below HR.out HBB.out (by omega); have hRY := shImage.R_below HR'.out HBB.out (by omega)
    clear HR HR' HBB HB HZ HZ' hlu hlu'
    generalize wc = w6 at *
    obtain ⟨p0, p1, p2, p3, p4, p5⟩ := X
    obtain ⟨q0, q1, q2, q3, q4, q5⟩ := Y
    have hFX := HX.out; have hFY := HX'.out
    obtain ⟨fe0, fe1, fe2, fe3, fe4, fe5⟩ := hFX
    obtain ⟨ge0, ge1, ge2, ge3, ge4, ge5⟩ := hFY
    clear HX HX'
    obtain ⟨s0, rs0, es0, k0, s1, rs1, es1, k1, s2, rs2, es2, k2, s3, rs3, es3, k3, s4, rs4, es4, k4, k5⟩ := hRX
    generalize rs4 = s5 at *
    obtain rfl := (show s0 = [.string p0] from k0)
    have qk1 := k1; obtain ⟨M1, m1, rfl, _⟩ := qk1
    obtain rfl := (show s2 = [.bool p2] from k2)
    obtain rfl := (show s3 = [.string p3] from k3)
    obtain rfl := (show s4 = [.bool p4] from k4)
    obtain rfl := (show s5 = [.string p5] from k5)
    have HE := Lib.hid (show ∀ (W : World) (b : Nat), W.rangeAt b 0 us → W.cell? ⟨b, 0, none⟩ = some (.string p0) ∧ W.cell? ⟨b, 1, none⟩ = some (.slice M1 p1.length m1) ∧ W.cell? ⟨b, 2, none⟩ = some (.bool p2) ∧ W.cell? ⟨b, 3, none⟩ = some (.string p3) ∧ W.cell? ⟨b, 4, none⟩ = some (.bool p4) ∧ W.cell? ⟨b, 5, none⟩ = some (.string p5) from fun W b hB => by
     have q := hB
     obtain ⟨p0, q⟩ := rsp es0 rfl q
     obtain ⟨p1, q⟩ := rsp es1 rfl q
     obtain ⟨p2, q⟩ := rsp es2 rfl q
     obtain ⟨p3, q⟩ := rsp es3 rfl q
     obtain ⟨p4, q⟩ := rsp es4 rfl q
     exact ⟨rng_one p0, rng_one p1, rng_one p2, rng_one p3, rng_one p4, rng_one q⟩)
    clear es0 es1 es2 es3 es4
    obtain ⟨t0, rt0, et0, l0, t1, rt1, et1, l1, t2, rt2, et2, l2, t3, rt3, et3, l3, t4, rt4, et4, l4, l5⟩ := hRY
    generalize rt4 = t5 at *
    obtain rfl := (show t0 = [.string q0] from l0)
    have ql1 := l1; obtain ⟨N1, n1, rfl, _⟩ := ql1
    obtain rfl := (show t2 = [.bool q2] from l2)
    obtain rfl := (show t3 = [.string q3] from l3)
    obtain rfl := (show t4 = [.bool q4] from l4)
    obtain rfl := (show t5 = [.string q5] from l5)
    have HJ := Lib.hid (show ∀ (W : World) (b : Nat), W.rangeAt b 0 us' → W.cell? ⟨b, 0, none⟩ = some (.string q0) ∧ W.cell? ⟨b, 1, none⟩ = some (.slice N1 q1.length n1) ∧ W.cell? ⟨b, 2, none⟩ = some (.bool q2) ∧ W.cell? ⟨b, 3, none⟩ = some (.string q3) ∧ W.cell? ⟨b, 4, none⟩ = some (.bool q4) ∧ W.cell? ⟨b, 5, none⟩ = some (.string q5) from fun W b hB => by
     have q := hB
     obtain ⟨p0, q⟩ := rsp et0 rfl q
     obtain ⟨p1, q⟩ := rsp et1 rfl q
     obtain ⟨p2, q⟩ := rsp et2 rfl q
     obtain ⟨p3, q⟩ := rsp et3 rfl q
     obtain ⟨p4, q⟩ := rsp et4 rfl q
     exact ⟨rng_one p0, rng_one p1, rng_one p2, rng_one p3, rng_one p4, rng_one q⟩)
    clear et0 et1 et2 et3 et4
    have f0 := (HE.out _ _ HQ1.out).1; have g0 := (HJ.out _ _ HR2.out).1
    have f1 := (HE.out _ _ HQ1.out).2.1; have g1 := (HJ.out _ _ HR2.out).2.1
    have f2 := (HE.out _ _ HQ1.out).2.2.1; have g2 := (HJ.out _ _ HR2.out).2.2.1
    have f3 := (HE.out _ _ HQ1.out).2.2.2.1; have g3 := (HJ.out _ _ HR2.out).2.2.2.1
    have f4 := (HE.out _ _ HQ1.out).2.2.2.2.1; have g4 := (HJ.out _ _ HR2.out).2.2.2.2.1
    have f5 := (HE.out _ _ HQ1.out).2.2.2.2.2; have g5 := (HJ.out _ _ HR2.out).2.2.2.2.2
    by_cases hne : p0 = q0
    rotate_left
    ·have HFF := Lib.hid (HANS.out.trans (same_f (HNE.out (fun e => hne (congrArg (fun X : TyImage => X.1) e)))))
     have hq : (p0.toList == q0.toList) = false := str_ne hne
     have hq2 : (!(p0.toList == q0.toList)) = true := by simp [hq]
     clear hne HST HNE
     go_wp2_with fail
     go_ret
     exact ⟨by rw [HFF.out]; rfl, HD.out⟩
    subst hne
    go_wp2_with fail
    refine (sameSubs_r M1 N1 m1 n1 p1 q1 lo hi lo' hi' w6 k1 l1 (by omega) (by omega) fe1.1 ge1.1).mono ?_
    rintro e7 w7 ⟨rfl, hb7⟩
    have HD7 := Lib.hid (HD.out.trans (hb7.mono (by omega)))
    have HQ7 := Lib.hid (rng_below HQ1.out hb7 (by omega)); have HR7 := Lib.hid (rng_below HR2.out hb7 (by omega))
    clear hb7 HQ1 HR2 f0 g0 f1 g1 f2 g2 f3 g3 f4 g4 f5 g5
    have HQ1 := HQ7; have HR2 := HR7; clear HQ7 HR7
    by_cases hne : p1 = q1
    rotate_left
    ·rw [same_f hne]
     have HFF := Lib.hid (HANS.out.trans (same_f (HNE.out (fun e => hne (congrArg (fun X : TyImage => X.2.1) e)))))
     clear hne HST HNE
     go_wp2_with fail
     go_ret
     exact ⟨by rw [HFF.out]; rfl, HD7.out⟩
    rw [same_t hne]
    subst hne
    have f2 := (HE.out _ _ HQ1.out).2.2.1; have g2 := (HJ.out _ _ HR2.out).2.2.1
    have f3 := (HE.out _ _ HQ1.out).2.2.2.1; have g3 := (HJ.out _ _ HR2.out).2.2.2.1
    have f4 := (HE.out _ _ HQ1.out).2.2.2.2.1; have g4 := (HJ.out _ _ HR2.out).2.2.2.2.1
    have f5 := (HE.out _ _ HQ1.out).2.2.2.2.2; have g5 := (HJ.out _ _ HR2.out).2.2.2.2.2
    by_cases hne : p2 = q2
    rotate_left
    ·have HFF := Lib.hid (HANS.out.trans (same_f (HNE.out (fun e => hne (congrArg (fun X : TyImage => X.2.2.1) e)))))
     have hq : (p2 == q2) = false := beq_eq_false_iff_ne.2 hne
     have hq2 : (p2 != q2) = true := by simp [hq, bne]
     have hq3 := hq; (try simp only [beq_eq_false_iff_ne, ne_eq] at hq3)
     clear hne HST HNE
     go_wp2_with fail
     go_ret
     exact ⟨by rw [HFF.out]; rfl, HD7.out⟩
    subst hne
    by_cases hne : p3 = q3
    rotate_left
    ·have HFF := Lib.hid (HANS.out.trans (same_f (HNE.out (fun e => hne (congrArg (fun X : TyImage => X.2.2.2.1) e)))))
     have hq : (p3.toList == q3.toList) = false := str_ne hne
     have hq2 : (!(p3.toList == q3.toList)) = true := by simp [hq]
     clear hne HST HNE
     go_wp2_with fail
     go_ret
     exact ⟨by rw [HFF.out]; rfl, HD7.out⟩
    subst hne
    by_cases hne : p4 = q4
    rotate_left
    ·have HFF := Lib.hid (HANS.out.trans (same_f (HNE.out (fun e => hne (congrArg (fun X : TyImage => X.2.2.2.2.1) e)))))
     have hq : (p4 == q4) = false := beq_eq_false_iff_ne.2 hne
     have hq2 : (p4 != q4) = true := by simp [hq, bne]
     have hq3 := hq; (try simp only [beq_eq_false_iff_ne, ne_eq] at hq3)
     clear hne HST HNE
     go_wp2_with fail
     go_ret
     exact ⟨by rw [HFF.out]; rfl, HD7.out⟩
    subst hne
    by_cases hne : p5 = q5
    rotate_left
    ·have HFF := Lib.hid (HANS.out.trans (same_f (HNE.out (fun e => hne (congrArg (fun X : TyImage => X.2.2.2.2.2) e)))))
     have hq : (p5.toList == q5.toList) = false := str_ne hne
     have hq2 : (!(p5.toList == q5.toList)) = true := by simp [hq]
     clear hne HST HNE
     go_wp2_with fail
     go_ret
     exact ⟨by rw [HFF.out]; rfl, HD7.out⟩
    subst hne
    have HS2 := Lib.hid (HST.out rfl)
    clear HST HNE
    go_wp2_with fail
    go_roundw
    case rel => exact ⟨k + 1, by omega, by go_num, HS2, HD7.out⟩
    case measure => simp [intOf]; omega
   ·obtain rfl : k = xs.length := by omega
    have HB := Lib.hid hb; have HT := Lib.hid (HANS.out.trans (same_t (take_all htk.out HL.out))); clear hb htk
    go_wp2_with fail
    go_ret
    exact ⟨by rw [HT.out]; rfl, HB.out⟩
 ·have HFF := Lib.hid (HANS.out.trans (same_f (ne_of_len hl)))
  have hm := hf'.1
  have n1 : ((xs.length : Int) == (ys.length : Int)) = false := by rw [beq_eq_false_iff_ne]; omega
  have n2 : ((xs.length : Int) != (ys.length : Int)) = true := by rw [bne_iff_ne]; omega
  clear hl h h' hf hf'
  go_enter Tryz.func95, Tryz.ntmps95
  (try dsimp only [List.append])
  go_wp2_with fail
  go_ret
  exact ⟨by rw [HFF.out]; rfl, Below.refl _ _⟩
theorem sSameReplica_o : SmS shReplica 37 := by
 intro X Y vs us lo hi lo' hi' w h h' hhi hhi' hf hf'
 obtain ⟨ANS, hANS⟩ : ∃ b, b = sameB X Y := ⟨_, rfl⟩
 rw [← hANS]
 obtain ⟨X0, x1, x2⟩ := X
 obtain ⟨Y0, y1, y2⟩ := Y
 obtain ⟨ft0, ft1, ft2⟩ := hf
 obtain ⟨gt0, gt1, gt2⟩ := hf'
 have HANS := Lib.hid hANS; clear hANS
 obtain ⟨u0, ru0, eu0, k0, u1, ru1, eu1, k1, k2⟩ := h
 generalize ru1 = u2 at *
 obtain rfl := (show u1 = [.int .i64 x1] from k1)
 have qk2 := k2; obtain ⟨A2, c2, rfl, _⟩ := qk2
 have HG := Lib.hid (show ∀ (W : World) (b : Nat) (t : TypeId), Blk W b t vs.toArray → W.rangeAt b 0 u0 ∧ W.cell? ⟨b, 1, none⟩ = some (.int .i64 x1) ∧ W.cell? ⟨b, 2, none⟩ = some (.slice A2 x2.length c2) from fun W b t hB => by
  have q := blk_all hB
  obtain ⟨p0, q⟩ := rsp eu0 (shTree.R_len k0) q
  obtain ⟨p1, q⟩ := rsp eu1 rfl q
  exact ⟨p0, rng_one p1, rng_one q⟩)
 clear eu0 eu1
 obtain ⟨v0, rv0, ev0, l0, v1, rv1, ev1, l1, l2⟩ := h'
 generalize rv1 = v2 at *
 obtain rfl := (show v1 = [.int .i64 y1] from l1)
 have ql2 := l2; obtain ⟨B2, d2, rfl, _⟩ := ql2
 have HH := Lib.hid (show ∀ (W : World) (b : Nat) (t : TypeId), Blk W b t us.toArray → W.rangeAt b 0 v0 ∧ W.cell? ⟨b, 1, none⟩ = some (.int .i64 y1) ∧ W.cell? ⟨b, 2, none⟩ = some (.slice B2 y2.length d2) from fun W b t hB => by
  have q := blk_all hB
  obtain ⟨p0, q⟩ := rsp ev0 (shTree.R_len l0) q
  obtain ⟨p1, q⟩ := rsp ev1 rfl q
  exact ⟨p0, rng_one p1, rng_one q⟩)
 clear ev0 ev1
 have R0 := (((((((Stand.nil w).ad shTree.R u0 X0 hhi k0 shTree.R_keep).ad (Sh.row 187 shParcel).R [.slice A2 x2.length c2] x2 hhi k2 (Sh.row 187 shParcel).R_keep).ad shTree.R v0 Y0 hhi' l0 shTree.R_keep).ad (Sh.row 187 shParcel).R [.slice B2 y2.length d2] y2 hhi' l2 (Sh.row 187 shParcel).R_keep).box 103 vs.toArray).box 103 us.toArray)
 rw [heap_alloc_size1] at R0
 have HR0 := Lib.hid R0
 have HZ0 := slH sizeITree k0
 have HY0 := slH sizeITree l0
 clear R0 k0 l0 k2 l2
 go_enter Tryz.func37, Tryz.ntmps37
 go_wp2_with (first | fail | (refine wlg w.heap.size 0 u0 (HG.out _ _ _ (HR0.out.get 1 rfl)).1 Tryz.underlying66 HZ0.out ?_) | (refine wlg (w.heap.size + 1) 0 v0 (HH.out _ _ _ (HR0.out.get 0 rfl)).1 Tryz.underlying66 HY0.out ?_))
 refine (sSameTree_o X0 Y0 u0 v0 lo hi lo' hi' _ (HR0.out.get 5 rfl) (HR0.out.get 3 rfl) (HR0.out.le 5 rfl) (HR0.out.le 3 rfl) ft0 gt0).mono ?_
 rintro e0 w0 ⟨rfl, hb0⟩
 have HR1 := Lib.hid (HR0.out.below hb0)
 clear hb0 HR0 
 by_cases hne : X0 = Y0
 rotate_left
 ·rw [same_f hne]
  have HF := nf (fun X : TyReplica => X.1) HANS hne
  clear hne
  go_wp2_with fail
  go_ret
  exact ⟨by rw [HF.out]; rfl, HR1.out.1⟩
 rw [same_t hne]
 subst hne
 have f1 := (HG.out _ _ _ (HR1.out.get 1 rfl)).2.1
 have g1 := (HH.out _ _ _ (HR1.out.get 0 rfl)).2.1
 have f2 := (HG.out _ _ _ (HR1.out.get 1 rfl)).2.2
 have g2 := (HH.out _ _ _ (HR1.out.get 0 rfl)).2.2
 by_cases hne : x1 = y1
 rotate_left
 ·have HF := nf (fun X : TyReplica => X.2.1) HANS hne
  have hq : (x1 == y1) = false := beq_eq_false_iff_ne.2 hne
  have hq2 : (x1 != y1) = true := by simp [hq, bne]
  clear hne
  go_wp2_with fail
  go_ret
  exact ⟨by rw [HF.out]; rfl, HR1.out.1⟩
 subst hne
 by_cases hne : x2.length = y2.length
 rotate_left
 ·have HF := nf (fun X : TyReplica => (X.2.2).length) HANS hne
  have n1 : ((x2.length : Int) == (y2.length : Int)) = false := by rw [beq_eq_false_iff_ne]; omega
  have n2 : ((x2.length : Int) != (y2.length : Int)) = true := by rw [bne_iff_ne]; omega
  clear hne
  go_wp2_with fail
  go_ret
  exact ⟨by rw [HF.out]; rfl, HR1.out.1⟩
 have HL2 := Lib.hid hne
 have m2 : ((x2.length : Int) == (y2.length : Int)) = true := by rw [beq_iff_eq]; omega
 have n2 : ((x2.length : Int) != (y2.length : Int)) = false := by rw [hne]; simp
 clear hne
 go_wp2_with fail
 obtain ⟨Q, q0, qs, qg⟩ := HR1.out.veilQ
 have HQ0 := Lib.hid q0; have QS := Lib.hid qs; have QG := Lib.hid qg
 clear q0 qs qg HR1 f1 g1 f2 g2 m2 n2
 have hn2 := ft2.1
 go_loopw [5] (fun i wr => ∃ k : Nat, k ≤ x2.length ∧ i = .int .i64 k ∧ Hid (x2.take k = y2.take k) ∧ Hid (Q wr)) (fun i _ => x2.length - (intOf i).toNat)
 case atStart => exact ⟨0, Nat.zero_le _, rfl, Lib.hid rfl, HQ0⟩
 case round =>
  obtain ⟨k, hk, rfl, htk, hq2⟩ := hrel
  have HRr := Lib.hid (QG.out _ hq2.out)
  have f2 := (HG.out _ _ _ (HRr.out.get 1 rfl)).2.2
  have g2 := (HH.out _ _ _ (HRr.out.get 0 rfl)).2.2
  by_cases hlt : k < x2.length
  ·have hly : k < y2.length := by have := HL2.out; omega
   obtain ⟨b, off, rfl, hb1, hb2, us, hc, hX⟩ := row_at (HRr.out.get 4 rfl) hlt
   obtain ⟨b', off', rfl, hb1', hb2', us', hc', hX'⟩ := row_at (HRr.out.get 2 rfl) hly
   have HST := Lib.hid (fun he => take_step (d := shParcel.d) htk.out hlt HL2.out he)
   have HNE := Lib.hid (fun he => ne_at (xs := x2) (ys := y2) (d := shParcel.d) (k := k) he)
   have HX := Lib.hid (ft2.2 _ (getD_in (d := shParcel.d) hlt)); have HX' := Lib.hid (gt2.2 _ (getD_in (d := shParcel.d) hly))
   generalize x2.getD k shParcel.d = EX at *
   generalize y2.getD k shParcel.d = EY at *
   obtain ⟨p0, p1⟩ := EX
   obtain ⟨q0, q1⟩ := EY
   have hX := shParcel.R_below hX (below_drewN' wr 1) (HRr.out.le 4 rfl); have hX' := shParcel.R_below hX' (below_drewN' wr 1) (HRr.out.le 2 rfl)
   obtain ⟨s0, s1, es0, k0, k1⟩ := hX
   obtain rfl := (show s0 = [.int .i64 p0] from k0); have k2 := k1; obtain ⟨Ae, Ce, rfl, _⟩ := k2
   obtain ⟨t0, t1, et0, l0, l1⟩ := hX'
   obtain rfl := (show t0 = [.int .i64 q0] from l0); have l2 := l1; obtain ⟨Be, De, rfl, _⟩ := l2
   have HC := Lib.hid (show wr.drew.rangeAt b (off + k * 2) us from rng_of hc); have HC' := Lib.hid (show wr.drew.rangeAt b' (off' + k * 2) us' from rng_of hc')
   have HCF := Lib.hid (show ∀ W : World, W.rangeAt b (off + k * 2) us → W.cell? ⟨b, off + k * 2, none⟩ = some (.int .i64 p0) ∧ W.cell? ⟨b, off + k * 2 + 1, none⟩ = some (.slice Ae p1.length Ce) from fun W q => by
    rw [es0] at q; obtain ⟨q0, q⟩ := rng_split rfl q; exact ⟨rng_one q0, rng_one q⟩)
   have HCF' := Lib.hid (show ∀ W : World, W.rangeAt b' (off' + k * 2) us' → W.cell? ⟨b', off' + k * 2, none⟩ = some (.int .i64 q0) ∧ W.cell? ⟨b', off' + k * 2 + 1, none⟩ = some (.slice Be q1.length De) from fun W q => by
    rw [et0] at q; obtain ⟨q0, q⟩ := rng_split rfl q; exact ⟨rng_one q0, rng_one q⟩)
   have HR := Lib.hid (show (Sh.row 284 shImage).R wr.drew lo hi [.slice Ae p1.length Ce] p1 from k1); have HR' := Lib.hid (show (Sh.row 284 shImage).R wr.drew lo' hi' [.slice Be q1.length De] q1 from l1)
   have HQd := Lib.hid (QS.out _ wr.drew hq2.out (below_drewN' wr 1))
   have HRd := Lib.hid (QG.out _ HQd.out)
   have HF1 := Lib.hid (show wr.drew.cell? _ = _ from (HG.out _ _ _ (HRd.out.get 1 rfl)).2.2); have HF2 := Lib.hid (show wr.drew.cell? _ = _ from (HH.out _ _ _ (HRd.out.get 0 rfl)).2.2)
   clear hc hc' htk HRr es0 et0 k0 l0 k1 l1
   go_upto_region 6 with fail
   clear f2 g2
   refine AnyT.region (fun _ => false) (fun W => (W.cell? ⟨w.heap.size, 2, none⟩ = some (.slice (some ⟨b, off, none⟩) x2.length c2) ∧ W.cell? ⟨w.heap.size + 1, 2, none⟩ = some (.slice (some ⟨b', off', none⟩) y2.length d2)) ∧ (W.cell? ⟨b, off + k * 2, none⟩ = some (.int .i64 p0) ∧ W.cell? ⟨b, off + k * 2 + 1, none⟩ = some (.slice Ae p1.length Ce)) ∧ W.cell? ⟨b', off' + k * 2, none⟩ = some (.int .i64 q0) ∧ W.cell? ⟨b', off' + k * 2 + 1, none⟩ = some (.slice Be q1.length De)) (by kernel_rfl) ⟨⟨HF1.out, HF2.out⟩, HCF.out _ HC.out, HCF'.out _ HC'.out⟩ (fun hHeld => ?_)
   generalize wr.drew = w4 at *
   (refine AnyT.ta 0 35 ?_; simp only [Act.put, za, zb, zc])
   (refine AnyT.tk 1 36 ?_; simp only [Act.put, za, zb, zc])
   (refine AnyT.ta 2 37 ?_; simp only [Act.put, za, zb, zc])
   (refine AnyT.ta 3 38 ?_; simp only [Act.put, za, zb, zc])
   (refine AnyT.ta 4 39 ?_; simp only [Act.put, za, zb, zc])
   (refine AnyT.tk 5 40 ?_; simp only [Act.put, za, zb, zc])
   (refine AnyT.ta 6 41 ?_; simp only [Act.put, za, zb, zc])
   (refine AnyT.tk 7 42 ?_; simp only [Act.put, za, zb, zc])
   (refine AnyT.ta 8 43 ?_; simp only [Act.put, za, zb, zc])
   (refine AnyT.ta 9 44 ?_; simp only [Act.put, za, zb, zc])
   (refine AnyT.ta 10 45 ?_; simp only [Act.put, za, zb, zc])
   (refine AnyT.tk 11 46 ?_; simp only [Act.put, za, zb, zc])
   by_cases hne : p0 = q0
   rotate_left
   ·have hq : (p0 == q0) = false := beq_eq_false_iff_ne.2 hne
    have hq2 : (p0 != q0) = true := by simp [hne]
    have HFF := Lib.hid (HANS.out.trans (same_f (fun e => HNE.out (fun e => hne (congrArg (fun X : TyParcel => X.1) e)) (congrArg (fun X : TyReplica => X.2.2) e))))
    clear hne HST HNE
    (refine AnyT.ta 12 47 ?_; simp only [Act.put, za, zb, zc])
    (try rw [hq2])
    (refine AnyT.ta 13 48 ?_; simp only [Act.put, za, zb, zc])
    (refine AnyT.sk 14 49 ?_; simp only [Act.put, za, zb, zc])
    (refine AnyT.sk 15 50 ?_; simp only [Act.put, za, zb, zc])
    (refine AnyT.sk 16 51 ?_; simp only [Act.put, za, zb, zc])
    (refine AnyT.sk 17 52 ?_; simp only [Act.put, za, zb, zc])
    (refine AnyT.sk 18 53 ?_; simp only [Act.put, za, zb, zc])
    (refine AnyT.sk 19 54 ?_; simp only [Act.put, za, zb, zc])
    (refine AnyT.sk 20 55 ?_; simp only [Act.put, za, zb, zc])
    (refine AnyT.sk 21 56 ?_; simp only [Act.put, za, zb, zc])
    (refine AnyT.sk 22 57 ?_; simp only [Act.put, za, zb, zc])
    (refine AnyT.sk 23 58 ?_; simp only [Act.put, za, zb, zc])
    (refine AnyT.sk 24 59 ?_; simp only [Act.put, za, zb, zc])
    (refine AnyT.sk 25 60 ?_; simp only [Act.put, za, zb, zc])
    (refine AnyT.sk 26 61 ?_; simp only [Act.put, za, zb, zc])
    (refine AnyT.sk 27 62 ?_; simp only [Act.put, za, zb, zc])
    (refine AnyT.ta 28 63 ?_; simp only [Act.put, za, zb, zc])
    refine AnyT.done (by kernel_rfl) ?_ _
    clear hHeld
    go_wp2_with fail
    go_ret
    exact ⟨by rw [HFF.out]; rfl, HRd.out.1⟩
   subst hne
   have hq2 : (p0 != p0) = false := by simp
   (refine AnyT.ta 12 47 ?_; simp only [Act.put, za, zb, zc])
   (try rw [hq2])
   (refine AnyT.ta 13 48 ?_; simp only [Act.put, za, zb, zc])
   (refine AnyT.ta 14 49 ?_; simp only [Act.put, za, zb, zc])
   (refine AnyT.tk 15 50 ?_; simp only [Act.put, za, zb, zc])
   (refine AnyT.ta 16 51 ?_; simp only [Act.put, za, zb, zc])
   (refine AnyT.ta 17 52 ?_; simp only [Act.put, za, zb, zc])
   (refine AnyT.ta 18 53 ?_; simp only [Act.put, za, zb, zc])
   (refine AnyT.tk 19 54 ?_; simp only [Act.put, za, zb, zc])
   (refine AnyT.ta 20 55 ?_; simp only [Act.put, za, zb, zc])
   (refine AnyT.tk 21 56 ?_; simp only [Act.put, za, zb, zc])
   (refine AnyT.ta 22 57 ?_; simp only [Act.put, za, zb, zc])
   (refine AnyT.ta 23 58 ?_; simp only [Act.put, za, zb, zc])
   (refine AnyT.ta 24 59 ?_; simp only [Act.put, za, zb, zc])
   (refine AnyT.tk 25 60 ?_; simp only [Act.put, za, zb, zc])
   ((refine AnyT.one (i := 26) (by kernel_rfl) rfl (fun K hK => ?_)))
   go_simp
   refine (l23SameImages_r Ae Be Ce De p1 q1 lo hi lo' hi' w4 HR.out HR'.out (HRd.out.le 4 rfl) (HRd.out.le 2 rfl) HX.out.2 HX'.out.2).mono ?_
   rintro e5 w5 ⟨rfl, hb5⟩
   go_simp
   have HQ5 := Lib.hid (QS.out _ w5 HQd.out hb5)
   have HRe := Lib.hid (QG.out _ HQ5.out)
   refine hK.out _ _ ⟨⟨(HG.out _ _ _ (HRe.out.get 1 rfl)).2.2, (HH.out _ _ _ (HRe.out.get 0 rfl)).2.2⟩, HCF.out _ (rng_below HC.out hb5 (Nat.lt_of_lt_of_le hb2 (HRd.out.le 4 rfl))), HCF'.out _ (rng_below HC'.out hb5 (Nat.lt_of_lt_of_le hb2' (HRd.out.le 2 rfl)))⟩ (fun hHeld => ?_)
   clear hK K hb5 HC HC'
   (try simp only [Act.put, za, zb, zc])
   (refine AnyT.ta 27 62 ?_; simp only [Act.put, za, zb, zc])
   (refine AnyT.ta 28 63 ?_; simp only [Act.put, za, zb, zc])
   refine AnyT.done (by kernel_rfl) ?_ _
   clear hHeld
   by_cases hxy : p1 = q1
   ·have HS2 := Lib.hid (HST.out (by rw [hxy]))
    rw [same_t hxy]
    clear HST HNE hxy
    go_wp2_with fail
    go_roundw
    case rel => exact ⟨k + 1, by omega, by go_num, HS2, HQ5⟩
    case measure => simp [intOf]; omega
   ·have HFF := Lib.hid (HANS.out.trans (same_f (fun e => HNE.out (fun e => hxy (congrArg (fun X : TyParcel => X.2) e)) (congrArg (fun X : TyReplica => X.2.2) e))))
    rw [same_f hxy]
    clear hxy HST HNE
    go_wp2_with fail
    go_ret
    exact ⟨by rw [HFF.out]; rfl, (QG.out _ HQ5.out).1⟩
  ·obtain rfl : k = x2.length := by omega
   have he := take_all htk.out HL2.out
   clear htk HRr
   subst he
   have HT := Lib.hid (HANS.out.trans (same_t rfl))
   go_wp2_with fail
   go_ret
   exact ⟨by rw [HT.out]; rfl, (QG.out _ hq2.out).1⟩
end Go.Proofs.YtgnmollbnopigaaGreat
