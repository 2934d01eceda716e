/- Job: walks field by field (sz,szS). Printed by gen_big.py. -/
import Derived.Test.YtgnmollbnopigaaGreatJoinSTAt
set_option maxHeartbeats 16000000
set_option maxRecDepth 100000
namespace Go.Proofs.YtgnmollbnopigaaGreat
open Go.RowKit
theorem szJob_o (X : TyJob) (vs : List Value) (lo hi : Nat) (left : Int) (w : World) (h : shJob.R w lo hi vs X) (hhi : hi ≤ w.heap.size) (hf : shJob.fit 9223372036854775807 X) (hl0 : 0 ≤ left) (hl : left ≤ 1048576) :
  Calls Tryz.prog 106 #[.agg vs.toArray, .int .i64 left] w fun e w' => ∃ m, e = .returned (.int .i64 m) ∧ Left left (shJob.cost X) m ∧ Below w.heap.size w w' := by
 obtain ⟨x0, X1, X2, X3, x4, x5, x6, x7, x8, x9⟩ := X
 obtain ⟨ft0, ft1, ft2, ft3, ft4, ft5, ft6, ft7, ft8, ft9⟩ := hf
 obtain ⟨u0, ru0, eu0, k0, u1, ru1, eu1, k1, u2, ru2, eu2, k2, u3, ru3, eu3, k3, u4, ru4, eu4, k4, u5, ru5, eu5, k5, u6, ru6, eu6, k6, u7, ru7, eu7, k7, u8, ru8, eu8, k8, k9⟩ := h
 generalize ru8 = u9 at *
 obtain rfl := (show u0 = [.int .i64 x0] from k0)
 obtain rfl := (show u4 = [.string x4] from k4)
 have qk5 := k5; obtain ⟨A5, c5, rfl, _⟩ := qk5
 have qk6 := k6; obtain ⟨A6, c6, rfl, _⟩ := qk6
 obtain rfl := (show u7 = [.int .i64 x7] from k7)
 have qk8 := k8; obtain ⟨A8, c8, rfl, _⟩ := qk8
 obtain rfl := (show u9 = [.string x9] from k9)
 have HG := Lib.hid (show ∀ (W : World) (b : Nat) (t : TypeId), Blk W b t vs.toArray → W.cell? ⟨b, 0, none⟩ = some (.int .i64 x0) ∧ W.rangeAt b 1 u1 ∧ W.rangeAt b 22 u2 ∧ W.rangeAt b 25 u3 ∧ W.cell? ⟨b, 46, none⟩ = some (.string x4) ∧ W.cell? ⟨b, 47, none⟩ = some (.slice A5 x5.length c5) ∧ W.cell? ⟨b, 48, none⟩ = some (.slice A6 x6.length c6) ∧ W.cell? ⟨b, 49, none⟩ = some (.int .i64 x7) ∧ W.cell? ⟨b, 50, none⟩ = some (.slice A8 x8.length c8) ∧ W.cell? ⟨b, 51, none⟩ = some (.string x9) from fun W b t hB => by
  have q := blk_all hB
  obtain ⟨p0, q⟩ := rsp eu0 rfl q
  obtain ⟨p1, q⟩ := rsp eu1 (shMachine.R_len k1) q
  obtain ⟨p2, q⟩ := rsp eu2 (shTrans.R_len k2) q
  obtain ⟨p3, q⟩ := rsp eu3 (shMachine.R_len k3) q
  obtain ⟨p4, q⟩ := rsp eu4 rfl q
  obtain ⟨p5, q⟩ := rsp eu5 rfl q
  obtain ⟨p6, q⟩ := rsp eu6 rfl q
  obtain ⟨p7, q⟩ := rsp eu7 rfl q
  obtain ⟨p8, q⟩ := rsp eu8 rfl q
  exact ⟨rng_one p0, p1, p2, p3, rng_one p4, rng_one p5, rng_one p6, rng_one p7, rng_one p8, rng_one q⟩)
 clear eu0 eu1 eu2 eu3 eu4 eu5 eu6 eu7 eu8
 have HR0 := Lib.hid ((((((((Stand.nil w).ad shMachine.R u1 X1 hhi k1 shMachine.R_keep).ad shTrans.R u2 X2 hhi k2 shTrans.R_keep).ad shMachine.R u3 X3 hhi k3 shMachine.R_keep).ad (Sh.row 9 shS).R [.slice A5 x5.length c5] x5 hhi k5 (Sh.row 9 shS).R_keep).ad (Sh.row 231 shLock).R [.slice A6 x6.length c6] x6 hhi k6 (Sh.row 231 shLock).R_keep).ad (Sh.row 9 shS).R [.slice A8 x8.length c8] x8 hhi k8 (Sh.row 9 shS).R_keep).box 216 vs.toArray)
 have HCO := Lib.hid (show shJob.cost (x0, X1, X2, X3, x4, x5, x6, x7, x8, x9) = 0 + (shMachine.cost X1 + (shTrans.cost X2 + (shMachine.cost X3 + (x4.size + ((Sh.row 9 shS).cost x5 + ((Sh.row 231 shLock).cost x6 + (0 + ((Sh.row 9 shS).cost x8 + (x9.size))))))))) from rfl)
 have zz4 : x4.size ≤ 9223372036854775807 := ft4
 have zz9 : x9.size ≤ 9223372036854775807 := ft9
 have HZ1 := slH sizeLMachine k1
 have HZ2 := slH sizeLTrans k2
 have HZ3 := slH sizeLMachine k3
 clear k1 k2 k3 k5 k6 k8
 generalize shJob.cost (x0, X1, X2, X3, x4, x5, x6, x7, x8, x9) = CO at *
 go_enter Tryz.func106, Tryz.ntmps106
 go_wp2_with (first | fail | (refine wlg w.heap.size 1 u1 (HG.out _ _ _ (HR0.out.get 0 rfl)).2.1 Tryz.underlying212 HZ1.out ?_))
 refine (szMachine_o X1 u1 lo hi _ _ (HR0.out.get 6 rfl) (HR0.out.le 6 rfl) ft1 (by omega) (by omega)).mono ?_
 rintro e1 w1 ⟨m1, rfl, hm1, hb1⟩
 have HR1 := Lib.hid (HR0.out.below hb1)
 clear hb1 HR0 
 rcases hm1 with rfl | ⟨hp1, hm1⟩
 ·go_wp2_with fail
  go_ret
  exact ⟨_, rfl, .inl rfl, HR1.out.1⟩
 have n1 : ¬ (m1 < 0) := by omega
 have v1 : m1 ≤ 1048576 := by omega
 have HM1 := Lib.hid hm1; clear hm1
 go_wp2_with (first | fail | (refine wlg w.heap.size 22 u2 (HG.out _ _ _ (HR1.out.get 0 rfl)).2.2.1 Tryz.underlying214 HZ2.out ?_))
 refine (szTrans_o X2 u2 lo hi _ _ (HR1.out.get 5 rfl) (HR1.out.le 5 rfl) ft2 (by omega) (by omega)).mono ?_
 rintro e2 w2 ⟨m2, rfl, hm2, hb2⟩
 have HR2 := Lib.hid (HR1.out.below hb2)
 clear hb2 HR1 
 rcases hm2 with rfl | ⟨hp2, hm2⟩
 ·go_wp2_with fail
  go_ret
  exact ⟨_, rfl, .inl rfl, HR2.out.1⟩
 have n2 : ¬ (m2 < 0) := by omega
 have v2 : m2 ≤ 1048576 := by omega
 have HM2 := Lib.hid hm2; clear hm2
 go_wp2_with (first | fail | (refine wlg w.heap.size 25 u3 (HG.out _ _ _ (HR2.out.get 0 rfl)).2.2.2.1 Tryz.underlying212 HZ3.out ?_))
 refine (szMachine_o X3 u3 lo hi _ _ (HR2.out.get 4 rfl) (HR2.out.le 4 rfl) ft3 (by omega) (by omega)).mono ?_
 rintro e3 w3 ⟨m3, rfl, hm3, hb3⟩
 have HR3 := Lib.hid (HR2.out.below hb3)
 clear hb3 HR2 
 rcases hm3 with rfl | ⟨hp3, hm3⟩
 ·go_wp2_with fail
  go_ret
  exact ⟨_, rfl, .inl rfl, HR3.out.1⟩
 have n3 : ¬ (m3 < 0) := by omega
 have v3 : m3 ≤ 1048576 := by omega
 have HM3 := Lib.hid hm3; clear hm3
 have f4 := (HG.out _ _ _ (HR3.out.get 0 rfl)).2.2.2.2.1
 by_cases g4 : m3 - (x4.size : Int) < 0
 ·go_wp2_with fail
  go_ret
  exact ⟨_, rfl, .inl rfl, HR3.out.1⟩
 have f5 := (HG.out _ _ _ (HR3.out.get 0 rfl)).2.2.2.2.2.1
 go_wp2_with fail
 refine (szStringS_f A5 c5 x5 lo hi _ _ (HR3.out.get 3 rfl) (HR3.out.le 3 rfl) ft5 (by omega) (by omega)).mono ?_
 rintro e5 w5 ⟨m5, rfl, hm5, hb5⟩
 have HR4 := Lib.hid (HR3.out.below hb5)
 clear hb5 HR3 f5
 rcases hm5 with rfl | ⟨hp5, hm5⟩
 ·go_wp2_with fail
  go_ret
  exact ⟨_, rfl, .inl rfl, HR4.out.1⟩
 have n5 : ¬ (m5 < 0) := by omega
 have v5 : m5 ≤ 1048576 := by omega
 have HM5 := Lib.hid hm5; clear hm5
 have f6 := (HG.out _ _ _ (HR4.out.get 0 rfl)).2.2.2.2.2.2.1
 go_wp2_with fail
 refine (szLockS_f A6 c6 x6 lo hi _ _ (HR4.out.get 2 rfl) (HR4.out.le 2 rfl) ft6 (by omega) (by omega)).mono ?_
 rintro e6 w6 ⟨m6, rfl, hm6, hb6⟩
 have HR5 := Lib.hid (HR4.out.below hb6)
 clear hb6 HR4 f6
 rcases hm6 with rfl | ⟨hp6, hm6⟩
 ·go_wp2_with fail
  go_ret
  exact ⟨_, rfl, .inl rfl, HR5.out.1⟩
 have n6 : ¬ (m6 < 0) := by omega
 have v6 : m6 ≤ 1048576 := by omega
 have HM6 := Lib.hid hm6; clear hm6
 have f8 := (HG.out _ _ _ (HR5.out.get 0 rfl)).2.2.2.2.2.2.2.2.1
 go_wp2_with fail
 refine (szStringS_f A8 c8 x8 lo hi _ _ (HR5.out.get 1 rfl) (HR5.out.le 1 rfl) ft8 (by omega) (by omega)).mono ?_
 rintro e8 w8 ⟨m8, rfl, hm8, hb8⟩
 have HR6 := Lib.hid (HR5.out.below hb8)
 clear hb8 HR5 f8
 rcases hm8 with rfl | ⟨hp8, hm8⟩
 ·go_wp2_with fail
  go_ret
  exact ⟨_, rfl, .inl rfl, HR6.out.1⟩
 have n8 : ¬ (m8 < 0) := by omega
 have v8 : m8 ≤ 1048576 := by omega
 have HM8 := Lib.hid hm8; clear hm8
 have f9 := (HG.out _ _ _ (HR6.out.get 0 rfl)).2.2.2.2.2.2.2.2.2
 by_cases g9 : m8 - (x9.size : Int) < 0
 ·go_wp2_with fail
  go_ret
  exact ⟨_, rfl, .inl rfl, HR6.out.1⟩
 go_wp2_with fail
 go_ret
 refine ⟨_, rfl, .inr ⟨by omega, ?_⟩, HR6.out.1⟩
 rw [HCO.out]
 have := HM1.out
 have := HM2.out
 have := HM3.out
 have := HM5.out
 have := HM6.out
 have := HM8.out
 omega
theorem szJobS_f (A : Option Addr) (c : Nat) (xs : List TyJob) (lo hi : Nat) (left : Int) (w : World) (h : (Sh.row 159 shJob).R w lo hi [.slice A xs.length c] xs) (hhi : hi ≤ w.heap.size) (hf : (Sh.row 159 shJob).fit 9223372036854775807 xs) (hl0 : 0 ≤ left) (hl : left ≤ 1048576) :
  Calls Tryz.prog 48 #[.slice A xs.length c, .int .i64 left] w fun e w' => ∃ m, e = .returned (.int .i64 m) ∧ Left left ((Sh.row 159 shJob).cost xs) m ∧ Below w.heap.size w w' := by
 have hn := hf.1
 have HA := Lib.hid h; have HF := Lib.hid hf.2
 clear h hf
 go_enter Tryz.func48, Tryz.ntmps48
 by_cases g0 : left - (xs.length : Int) < 0
 ·go_wp2_with fail
  go_ret
  exact ⟨_, rfl, .inl rfl, Below.refl _ _⟩
 go_wp2_with fail
 go_loopw [1, 5] (fun l i wr => ∃ (k : Nat) (m : Int), k ≤ xs.length ∧ i = .int .i64 k ∧ l = .int .i64 m ∧ 0 ≤ m ∧ m + xs.length + costTo shJob k xs = left ∧ Below w.heap.size w wr) (fun _ i _ => xs.length - (intOf i).toNat)
 case atStart => exact ⟨0, _, Nat.zero_le _, rfl, rfl, by omega, by rw [costTo_zero]; omega, Below.refl _ _⟩
 case round =>
  obtain ⟨k, m, hk, rfl, rfl, hm0, hm, hb⟩ := hrel
  have HM := Lib.hid hm
  have hml : m ≤ 1048576 := by omega
  clear hm
  by_cases hlt : k < xs.length
  ·obtain ⟨b, off, rfl, hb1, hb2, us, hc, hX⟩ := row_at ((Sh.row 159 shJob).R_below HA.out hb hhi) hlt
   have HS := Lib.hid (costTo_succ shJob hlt)
   have HX := Lib.hid (HF.out _ (getD_in (d := shJob.d) hlt))
   generalize xs.getD k shJob.d = X at *
   have HB := Lib.hid hb; have HR := Lib.hid hX
   have HC := Lib.hid (rng_of hc)
   have HZ := slH sizeLJob hX
   have hsz := hb.size
   clear hb hX hc
   go_wp2_with (first | fail | (refine wlg b (off + k * 52) us HC.out Tryz.underlying216 HZ.out ?_))
   refine (szJob_o X us lo hi _ _ HR.out (by omega) HX.out hm0 hml).mono ?_
   rintro e5 w5 ⟨m5, rfl, hm5, hb5⟩
   have HB5 := Lib.hid (HB.out.trans (hb5.mono hsz))
   clear hb5 HC
   rcases hm5 with rfl | ⟨hm50, hm5⟩
   ·go_wp2_with fail
    go_ret
    exact ⟨_, rfl, .inl rfl, HB5.out⟩
   have n5 : ¬ (m5 < 0) := by omega
   have HM5 := Lib.hid hm5
   clear hm5
   go_wp2_with fail
   go_roundw
   case rel => exact ⟨k + 1, m5, by omega, by go_num, rfl, hm50, by have := HM.out; have := HM5.out; have := HS.out; omega, HB5.out⟩
   case measure => simp [intOf]; omega
  ·obtain rfl : k = xs.length := by omega
   have HB := Lib.hid hb; clear hb
   go_wp2_with fail
   go_ret
   refine ⟨_, rfl, .inr ⟨hm0, ?_⟩, HB.out⟩
   have := HM.out
   have e1 := costTo_all shJob xs
   show m + (costAll shJob xs : Int) = left
   omega
end Go.Proofs.YtgnmollbnopigaaGreat
/- World, Base, Site: walks field by field (sz). Printed by gen_big.py. -/
namespace Go.Proofs.YtgnmollbnopigaaGreat
open Go.RowKit
theorem szWorld_o (X : TyWorld) (vs : List Value) (lo hi : Nat) (left : Int) (w : World) (h : shWorld.R w lo hi vs X) (hhi : hi ≤ w.heap.size) (hf : shWorld.fit 9223372036854775807 X) (hl0 : 0 ≤ left) (hl : left ≤ 1048576) :
  Calls Tryz.prog 15 #[.agg vs.toArray, .int .i64 left] w fun e w' => ∃ m, e = .returned (.int .i64 m) ∧ Left left (shWorld.cost X) m ∧ Below w.heap.size w w' := by
 obtain ⟨x0, X1, x2, X3, X4, x5, x6, x7⟩ := X
 obtain ⟨ft0, ft1, ft2, ft3, ft4, ft5, ft6, ft7⟩ := hf
 obtain ⟨u0, ru0, eu0, k0, u1, ru1, eu1, k1, u2, ru2, eu2, k2, u3, ru3, eu3, k3, u4, ru4, eu4, k4, u5, ru5, eu5, k5, u6, ru6, eu6, k6, k7⟩ := h
 generalize ru6 = u7 at *
 obtain rfl := (show u0 = [.int .i64 x0] from k0)
 have qk2 := k2; obtain ⟨A2, c2, rfl, _⟩ := qk2
 have qk5 := k5; obtain ⟨A5, c5, rfl, _⟩ := qk5
 obtain rfl := (show u6 = [.int .i64 x6] from k6)
 have qk7 := k7; obtain ⟨A7, c7, rfl, _⟩ := qk7
 have HG := Lib.hid (show ∀ (W : World) (b : Nat) (t : TypeId), Blk W b t vs.toArray → W.cell? ⟨b, 0, none⟩ = some (.int .i64 x0) ∧ W.rangeAt b 1 u1 ∧ W.cell? ⟨b, 3, none⟩ = some (.slice A2 x2.length c2) ∧ W.rangeAt b 4 u3 ∧ W.rangeAt b 5 u4 ∧ W.cell? ⟨b, 7, none⟩ = some (.slice A5 x5.length c5) ∧ W.cell? ⟨b, 8, none⟩ = some (.int .i64 x6) ∧ W.cell? ⟨b, 9, none⟩ = some (.slice A7 x7.length c7) from fun W b t hB => by
  have q := blk_all hB
  obtain ⟨p0, q⟩ := rsp eu0 rfl q
  obtain ⟨p1, q⟩ := rsp eu1 (shProgram.R_len k1) q
  obtain ⟨p2, q⟩ := rsp eu2 rfl q
  obtain ⟨p3, q⟩ := rsp eu3 (shTree.R_len k3) q
  obtain ⟨p4, q⟩ := rsp eu4 (shLocks.R_len k4) q
  obtain ⟨p5, q⟩ := rsp eu5 rfl q
  obtain ⟨p6, q⟩ := rsp eu6 rfl q
  exact ⟨rng_one p0, p1, rng_one p2, p3, p4, rng_one p5, rng_one p6, rng_one q⟩)
 clear eu0 eu1 eu2 eu3 eu4 eu5 eu6
 have HR0 := Lib.hid ((((((((Stand.nil w).ad shProgram.R u1 X1 hhi k1 shProgram.R_keep).ad (Sh.row 229 shTrigger).R [.slice A2 x2.length c2] x2 hhi k2 (Sh.row 229 shTrigger).R_keep).ad shTree.R u3 X3 hhi k3 shTree.R_keep).ad shLocks.R u4 X4 hhi k4 shLocks.R_keep).ad (Sh.row 159 shJob).R [.slice A5 x5.length c5] x5 hhi k5 (Sh.row 159 shJob).R_keep).ad (Sh.row 167 shBatch).R [.slice A7 x7.length c7] x7 hhi k7 (Sh.row 167 shBatch).R_keep).box 37 vs.toArray)
 have HCO := Lib.hid (show shWorld.cost (x0, X1, x2, X3, X4, x5, x6, x7) = 0 + (shProgram.cost X1 + ((Sh.row 229 shTrigger).cost x2 + (shTree.cost X3 + (shLocks.cost X4 + ((Sh.row 159 shJob).cost x5 + (0 + ((Sh.row 167 shBatch).cost x7))))))) from rfl)
 have HZ1 := slH sizeLProgram k1
 have HZ3 := slH sizeLTree k3
 have HZ4 := slH sizeLLocks k4
 clear k1 k2 k3 k4 k5 k7
 generalize shWorld.cost (x0, X1, x2, X3, X4, x5, x6, x7) = CO at *
 go_enter Tryz.func15, Tryz.ntmps15
 go_wp2_with (first | fail | (refine wlg w.heap.size 1 u1 (HG.out _ _ _ (HR0.out.get 0 rfl)).2.1 Tryz.underlying25 HZ1.out ?_))
 refine (szProgram_o X1 u1 lo hi _ _ (HR0.out.get 6 rfl) (HR0.out.le 6 rfl) ft1 (by omega) (by omega)).mono ?_
 rintro e1 w1 ⟨m1, rfl, hm1, hb1⟩
 have HR1 := Lib.hid (HR0.out.below hb1)
 clear hb1 HR0 
 rcases hm1 with rfl | ⟨hp1, hm1⟩
 ·go_wp2_with fail
  go_ret
  exact ⟨_, rfl, .inl rfl, HR1.out.1⟩
 have n1 : ¬ (m1 < 0) := by omega
 have v1 : m1 ≤ 1048576 := by omega
 have HM1 := Lib.hid hm1; clear hm1
 have f2 := (HG.out _ _ _ (HR1.out.get 0 rfl)).2.2.1
 go_wp2_with fail
 refine (szTriggerS_f A2 c2 x2 lo hi _ _ (HR1.out.get 5 rfl) (HR1.out.le 5 rfl) ft2 (by omega) (by omega)).mono ?_
 rintro e2 w2 ⟨m2, rfl, hm2, hb2⟩
 have HR2 := Lib.hid (HR1.out.below hb2)
 clear hb2 HR1 f2
 rcases hm2 with rfl | ⟨hp2, hm2⟩
 ·go_wp2_with fail
  go_ret
  exact ⟨_, rfl, .inl rfl, HR2.out.1⟩
 have n2 : ¬ (m2 < 0) := by omega
 have v2 : m2 ≤ 1048576 := by omega
 have HM2 := Lib.hid hm2; clear hm2
 go_wp2_with (first | fail | (refine wlg w.heap.size 4 u3 (HG.out _ _ _ (HR2.out.get 0 rfl)).2.2.2.1 Tryz.underlying29 HZ3.out ?_))
 refine (szTree_o X3 u3 lo hi _ _ (HR2.out.get 4 rfl) (HR2.out.le 4 rfl) ft3 (by omega) (by omega)).mono ?_
 rintro e3 w3 ⟨m3, rfl, hm3, hb3⟩
 have HR3 := Lib.hid (HR2.out.below hb3)
 clear hb3 HR2 
 rcases hm3 with rfl | ⟨hp3, hm3⟩
 ·go_wp2_with fail
  go_ret
  exact ⟨_, rfl, .inl rfl, HR3.out.1⟩
 have n3 : ¬ (m3 < 0) := by omega
 have v3 : m3 ≤ 1048576 := by omega
 have HM3 := Lib.hid hm3; clear hm3
 go_wp2_with (first | fail | (refine wlg w.heap.size 5 u4 (HG.out _ _ _ (HR3.out.get 0 rfl)).2.2.2.2.1 Tryz.underlying33 HZ4.out ?_))
 refine (szLocks_o X4 u4 lo hi _ _ (HR3.out.get 3 rfl) (HR3.out.le 3 rfl) ft4 (by omega) (by omega)).mono ?_
 rintro e4 w4 ⟨m4, rfl, hm4, hb4⟩
 have HR4 := Lib.hid (HR3.out.below hb4)
 clear hb4 HR3 
 rcases hm4 with rfl | ⟨hp4, hm4⟩
 ·go_wp2_with fail
  go_ret
  exact ⟨_, rfl, .inl rfl, HR4.out.1⟩
 have n4 : ¬ (m4 < 0) := by omega
 have v4 : m4 ≤ 1048576 := by omega
 have HM4 := Lib.hid hm4; clear hm4
 have f5 := (HG.out _ _ _ (HR4.out.get 0 rfl)).2.2.2.2.2.1
 go_wp2_with fail
 refine (szJobS_f A5 c5 x5 lo hi _ _ (HR4.out.get 2 rfl) (HR4.out.le 2 rfl) ft5 (by omega) (by omega)).mono ?_
 rintro e5 w5 ⟨m5, rfl, hm5, hb5⟩
 have HR5 := Lib.hid (HR4.out.below hb5)
 clear hb5 HR4 f5
 rcases hm5 with rfl | ⟨hp5, hm5⟩
 ·go_wp2_with fail
  go_ret
  exact ⟨_, rfl, .inl rfl, HR5.out.1⟩
 have n5 : ¬ (m5 < 0) := by omega
 have v5 : m5 ≤ 1048576 := by omega
 have HM5 := Lib.hid hm5; clear hm5
 have f7 := (HG.out _ _ _ (HR5.out.get 0 rfl)).2.2.2.2.2.2.2
 go_wp2_with fail
 refine (szBatchS_f A7 c7 x7 lo hi _ _ (HR5.out.get 1 rfl) (HR5.out.le 1 rfl) ft7 (by omega) (by omega)).mono ?_
 rintro e7 w7 ⟨m7, rfl, hm7, hb7⟩
 have HR6 := Lib.hid (HR5.out.below hb7)
 clear hb7 HR5 f7
 rcases hm7 with rfl | ⟨hp7, hm7⟩
 ·go_wp2_with fail
  go_ret
  exact ⟨_, rfl, .inl rfl, HR6.out.1⟩
 have n7 : ¬ (m7 < 0) := by omega
 have v7 : m7 ≤ 1048576 := by omega
 have HM7 := Lib.hid hm7; clear hm7
 go_wp2_with fail
 go_ret
 refine ⟨_, rfl, .inr ⟨by omega, ?_⟩, HR6.out.1⟩
 rw [HCO.out]
 have := HM1.out
 have := HM2.out
 have := HM3.out
 have := HM4.out
 have := HM5.out
 have := HM7.out
 omega
theorem szBase_o (X : TyBase) (vs : List Value) (lo hi : Nat) (left : Int) (w : World) (h : shBase.R w lo hi vs X) (hhi : hi ≤ w.heap.size) (hf : shBase.fit 9223372036854775807 X) (hl0 : 0 ≤ left) (hl : left ≤ 1048576) :
  Calls Tryz.prog 16 #[.agg vs.toArray, .int .i64 left] w fun e w' => ∃ m, e = .returned (.int .i64 m) ∧ Left left (shBase.cost X) m ∧ Below w.heap.size w w' := by
 obtain ⟨X0, X1, X2, x3, x4⟩ := X
 obtain ⟨ft0, ft1, ft2, ft3, ft4⟩ := hf
 obtain ⟨u0, ru0, eu0, k0, u1, ru1, eu1, k1, u2, ru2, eu2, k2, u3, ru3, eu3, k3, k4⟩ := h
 generalize ru3 = u4 at *
 obtain rfl := (show u3 = [.int .i64 x3] from k3)
 obtain rfl := (show u4 = [.int .i64 x4] from k4)
 have HG := Lib.hid (show ∀ (W : World) (b : Nat) (t : TypeId), Blk W b t vs.toArray → W.rangeAt b 0 u0 ∧ W.rangeAt b 2 u1 ∧ W.rangeAt b 15 u2 ∧ W.cell? ⟨b, 22, none⟩ = some (.int .i64 x3) ∧ W.cell? ⟨b, 23, none⟩ = some (.int .i64 x4) from fun W b t hB => by
  have q := blk_all hB
  obtain ⟨p0, q⟩ := rsp eu0 (shBtree.R_len k0) q
  obtain ⟨p1, q⟩ := rsp eu1 (shCache.R_len k1) q
  obtain ⟨p2, q⟩ := rsp eu2 (shJournal.R_len k2) q
  obtain ⟨p3, q⟩ := rsp eu3 rfl q
  exact ⟨p0, p1, p2, rng_one p3, rng_one q⟩)
 clear eu0 eu1 eu2 eu3
 have HR0 := Lib.hid (((((Stand.nil w).ad shBtree.R u0 X0 hhi k0 shBtree.R_keep).ad shCache.R u1 X1 hhi k1 shCache.R_keep).ad shJournal.R u2 X2 hhi k2 shJournal.R_keep).box 54 vs.toArray)
 have HCO := Lib.hid (show shBase.cost (X0, X1, X2, x3, x4) = shBtree.cost X0 + (shCache.cost X1 + (shJournal.cost X2 + (0 + (0)))) from rfl)
 have HZ0 := slH sizeLBtree k0
 have HZ1 := slH sizeLCache k1
 have HZ2 := slH sizeLJournal k2
 clear k0 k1 k2
 generalize shBase.cost (X0, X1, X2, x3, x4) = CO at *
 go_enter Tryz.func16, Tryz.ntmps16
 go_wp2_with (first | fail | (refine wlg w.heap.size 0 u0 (HG.out _ _ _ (HR0.out.get 0 rfl)).1 Tryz.underlying40 HZ0.out ?_))
 refine (szBtree_o X0 u0 lo hi _ _ (HR0.out.get 3 rfl) (HR0.out.le 3 rfl) ft0 (by omega) (by omega)).mono ?_
 rintro e0 w0 ⟨m0, rfl, hm0, hb0⟩
 have HR1 := Lib.hid (HR0.out.below hb0)
 clear hb0 HR0 
 rcases hm0 with rfl | ⟨hp0, hm0⟩
 ·go_wp2_with fail
  go_ret
  exact ⟨_, rfl, .inl rfl, HR1.out.1⟩
 have n0 : ¬ (m0 < 0) := by omega
 have v0 : m0 ≤ 1048576 := by omega
 have HM0 := Lib.hid hm0; clear hm0
 go_wp2_with (first | fail | (refine wlg w.heap.size 2 u1 (HG.out _ _ _ (HR1.out.get 0 rfl)).2.1 Tryz.underlying50 HZ1.out ?_))
 refine (szCache_o X1 u1 lo hi _ _ (HR1.out.get 2 rfl) (HR1.out.le 2 rfl) ft1 (by omega) (by omega)).mono ?_
 rintro e1 w1 ⟨m1, rfl, hm1, hb1⟩
 have HR2 := Lib.hid (HR1.out.below hb1)
 clear hb1 HR1 
 rcases hm1 with rfl | ⟨hp1, hm1⟩
 ·go_wp2_with fail
  go_ret
  exact ⟨_, rfl, .inl rfl, HR2.out.1⟩
 have n1 : ¬ (m1 < 0) := by omega
 have v1 : m1 ≤ 1048576 := by omega
 have HM1 := Lib.hid hm1; clear hm1
 go_wp2_with (first | fail | (refine wlg w.heap.size 15 u2 (HG.out _ _ _ (HR2.out.get 0 rfl)).2.2.1 Tryz.underlying52 HZ2.out ?_))
 refine (szJournal_o X2 u2 lo hi _ _ (HR2.out.get 1 rfl) (HR2.out.le 1 rfl) ft2 (by omega) (by omega)).mono ?_
 rintro e2 w2 ⟨m2, rfl, hm2, hb2⟩
 have HR3 := Lib.hid (HR2.out.below hb2)
 clear hb2 HR2 
 rcases hm2 with rfl | ⟨hp2, hm2⟩
 ·go_wp2_with fail
  go_ret
  exact ⟨_, rfl, .inl rfl, HR3.out.1⟩
 have n2 : ¬ (m2 < 0) := by omega
 have v2 : m2 ≤ 1048576 := by omega
 have HM2 := Lib.hid hm2; clear hm2
 go_wp2_with fail
 go_ret
 refine ⟨_, rfl, .inr ⟨by omega, ?_⟩, HR3.out.1⟩
 rw [HCO.out]
 have := HM0.out
 have := HM1.out
 have := HM2.out
 omega
theorem szSite_o (X : TySite) (vs : List Value) (lo hi : Nat) (left : Int) (w : World) (h : shSite.R w lo hi vs X) (hhi : hi ≤ w.heap.size) (hf : shSite.fit 9223372036854775807 X) (hl0 : 0 ≤ left) (hl : left ≤ 1048576) :
  Calls Tryz.prog 5 #[.agg vs.toArray, .int .i64 left] w fun e w' => ∃ m, e = .returned (.int .i64 m) ∧ Left left (shSite.cost X) m ∧ Below w.heap.size w w' := by
 obtain ⟨X0, X1, X2, x3, x4⟩ := X
 obtain ⟨ft0, ft1, ft2, ft3, ft4⟩ := hf
 obtain ⟨u0, ru0, eu0, k0, u1, ru1, eu1, k1, u2, ru2, eu2, k2, u3, ru3, eu3, k3, k4⟩ := h
 generalize ru3 = u4 at *
 obtain rfl := (show u3 = [.int .i64 x3] from k3)
 have qk4 := k4; obtain ⟨A4, c4, rfl, _⟩ := qk4
 have HG := Lib.hid (show ∀ (W : World) (b : Nat) (t : TypeId), Blk W b t vs.toArray → W.rangeAt b 0 u0 ∧ W.rangeAt b 10 u1 ∧ W.rangeAt b 34 u2 ∧ W.cell? ⟨b, 35, none⟩ = some (.int .i64 x3) ∧ W.cell? ⟨b, 36, none⟩ = some (.slice A4 x4.length c4) from fun W b t hB => by
  have q := blk_all hB
  obtain ⟨p0, q⟩ := rsp eu0 (shWorld.R_len k0) q
  obtain ⟨p1, q⟩ := rsp eu1 (shBase.R_len k1) q
  obtain ⟨p2, q⟩ := rsp eu2 (shTree.R_len k2) q
  obtain ⟨p3, q⟩ := rsp eu3 rfl q
  exact ⟨p0, p1, p2, rng_one p3, rng_one q⟩)
 clear eu0 eu1 eu2 eu3
 have HR0 := Lib.hid ((((((Stand.nil w).ad shWorld.R u0 X0 hhi k0 shWorld.R_keep).ad shBase.R u1 X1 hhi k1 shBase.R_keep).ad shTree.R u2 X2 hhi k2 shTree.R_keep).ad (Sh.row 167 shBatch).R [.slice A4 x4.length c4] x4 hhi k4 (Sh.row 167 shBatch).R_keep).box 56 vs.toArray)
 have HCO := Lib.hid (show shSite.cost (X0, X1, X2, x3, x4) = shWorld.cost X0 + (shBase.cost X1 + (shTree.cost X2 + (0 + ((Sh.row 167 shBatch).cost x4)))) from rfl)
 have HZ0 := slH sizeLWorld k0
 have HZ1 := slH sizeLBase k1
 have HZ2 := slH sizeLTree k2
 clear k0 k1 k2 k4
 generalize shSite.cost (X0, X1, X2, x3, x4) = CO at *
 go_enter Tryz.func5, Tryz.ntmps5
 go_wp2_with (first | fail | (refine wlg w.heap.size 0 u0 (HG.out _ _ _ (HR0.out.get 0 rfl)).1 Tryz.underlying37 HZ0.out ?_))
 refine (szWorld_o X0 u0 lo hi _ _ (HR0.out.get 4 rfl) (HR0.out.le 4 rfl) ft0 (by omega) (by omega)).mono ?_
 rintro e0 w0 ⟨m0, rfl, hm0, hb0⟩
 have HR1 := Lib.hid (HR0.out.below hb0)
 clear hb0 HR0 
 rcases hm0 with rfl | ⟨hp0, hm0⟩
 ·go_wp2_with fail
  go_ret
  exact ⟨_, rfl, .inl rfl, HR1.out.1⟩
 have n0 : ¬ (m0 < 0) := by omega
 have v0 : m0 ≤ 1048576 := by omega
 have HM0 := Lib.hid hm0; clear hm0
 go_wp2_with (first | fail | (refine wlg w.heap.size 10 u1 (HG.out _ _ _ (HR1.out.get 0 rfl)).2.1 Tryz.underlying54 HZ1.out ?_))
 refine (szBase_o X1 u1 lo hi _ _ (HR1.out.get 3 rfl) (HR1.out.le 3 rfl) ft1 (by omega) (by omega)).mono ?_
 rintro e1 w1 ⟨m1, rfl, hm1, hb1⟩
 have HR2 := Lib.hid (HR1.out.below hb1)
 clear hb1 HR1 
 rcases hm1 with rfl | ⟨hp1, hm1⟩
 ·go_wp2_with fail
  go_ret
  exact ⟨_, rfl, .inl rfl, HR2.out.1⟩
 have n1 : ¬ (m1 < 0) := by omega
 have v1 : m1 ≤ 1048576 := by omega
 have HM1 := Lib.hid hm1; clear hm1
 go_wp2_with (first | fail | (refine wlg w.heap.size 34 u2 (HG.out _ _ _ (HR2.out.get 0 rfl)).2.2.1 Tryz.underlying29 HZ2.out ?_))
 refine (szTree_o X2 u2 lo hi _ _ (HR2.out.get 2 rfl) (HR2.out.le 2 rfl) ft2 (by omega) (by omega)).mono ?_
 rintro e2 w2 ⟨m2, rfl, hm2, hb2⟩
 have HR3 := Lib.hid (HR2.out.below hb2)
 clear hb2 HR2 
 rcases hm2 with rfl | ⟨hp2, hm2⟩
 ·go_wp2_with fail
  go_ret
  exact ⟨_, rfl, .inl rfl, HR3.out.1⟩
 have n2 : ¬ (m2 < 0) := by omega
 have v2 : m2 ≤ 1048576 := by omega
 have HM2 := Lib.hid hm2; clear hm2
 have f4 := (HG.out _ _ _ (HR3.out.get 0 rfl)).2.2.2.2
 go_wp2_with fail
 refine (szBatchS_f A4 c4 x4 lo hi _ _ (HR3.out.get 1 rfl) (HR3.out.le 1 rfl) ft4 (by omega) (by omega)).mono ?_
 rintro e4 w4 ⟨m4, rfl, hm4, hb4⟩
 have HR4 := Lib.hid (HR3.out.below hb4)
 clear hb4 HR3 f4
 rcases hm4 with rfl | ⟨hp4, hm4⟩
 ·go_wp2_with fail
  go_ret
  exact ⟨_, rfl, .inl rfl, HR4.out.1⟩
 have n4 : ¬ (m4 < 0) := by omega
 have v4 : m4 ≤ 1048576 := by omega
 have HM4 := Lib.hid hm4; clear hm4
 go_wp2_with fail
 go_ret
 refine ⟨_, rfl, .inr ⟨by omega, ?_⟩, HR4.out.1⟩
 rw [HCO.out]
 have := HM0.out
 have := HM1.out
 have := HM2.out
 have := HM4.out
 omega
end Go.Proofs.YtgnmollbnopigaaGreat
