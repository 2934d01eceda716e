/- Job: walks field by field (eq,eqS). Printed by gen_big.py. -/
import Derived.Test.YtgnmollbnopigaaGreatJoinSSAv
set_option maxHeartbeats 16000000
set_option maxRecDepth 100000
namespace Go.Proofs.YtgnmollbnopigaaGreat
open Go.RowKit
theorem eqJob_o (X : TyJob) (vs us : List Value) (lo hi lo' hi' : Nat) (w : World) (h : shJob.R w lo hi vs X) (h' : shJob.R w lo' hi' us X) (hhi : hi ≤ w.heap.size) (hhi' : hi' ≤ w.heap.size) (hf : shJob.fit 4294967296 X) :
  Calls Tryz.prog 161 #[.agg vs.toArray, .agg us.toArray] w fun e w' => e = .returned (.bool true) ∧ Below w.heap.size w w' := by
 obtain ⟨x0, X1, X2, X3, x4, x5, x6, x7, x8, x9⟩ := X
 obtain ⟨ft0, ft1, ft2, ft3, ft4, ft5, ft6, ft7, ft8, ft9⟩ := hf
 obtain ⟨u0, ru0, eu0, k0, u1, ru1, eu1, k1, u2, ru2, eu2, k2, u3, ru3, eu3, k3, u4, ru4, eu4, k4, u5, ru5, eu5, k5, u6, ru6, eu6, k6, u7, ru7, eu7, k7, u8, ru8, eu8, k8, k9⟩ := h
 generalize ru8 = u9 at *
 obtain rfl := (show u0 = [.int .i64 x0] from k0)
 obtain rfl := (show u4 = [.string x4] from k4)
 have qk5 := k5; obtain ⟨A5, c5, rfl, _⟩ := qk5
 have qk6 := k6; obtain ⟨A6, c6, rfl, _⟩ := qk6
 obtain rfl := (show u7 = [.int .i64 x7] from k7)
 have qk8 := k8; obtain ⟨A8, c8, rfl, _⟩ := qk8
 obtain rfl := (show u9 = [.string x9] from k9)
 have HG := Lib.hid (show ∀ (W : World) (b : Nat) (t : TypeId), Blk W b t vs.toArray → W.cell? ⟨b, 0, none⟩ = some (.int .i64 x0) ∧ W.rangeAt b 1 u1 ∧ W.rangeAt b 22 u2 ∧ W.rangeAt b 25 u3 ∧ W.cell? ⟨b, 46, none⟩ = some (.string x4) ∧ W.cell? ⟨b, 47, none⟩ = some (.slice A5 x5.length c5) ∧ W.cell? ⟨b, 48, none⟩ = some (.slice A6 x6.length c6) ∧ W.cell? ⟨b, 49, none⟩ = some (.int .i64 x7) ∧ W.cell? ⟨b, 50, none⟩ = some (.slice A8 x8.length c8) ∧ W.cell? ⟨b, 51, none⟩ = some (.string x9) from fun W b t hB => by
  have q := blk_all hB
  obtain ⟨p0, q⟩ := rsp eu0 rfl q
  obtain ⟨p1, q⟩ := rsp eu1 (shMachine.R_len k1) q
  obtain ⟨p2, q⟩ := rsp eu2 (shTrans.R_len k2) q
  obtain ⟨p3, q⟩ := rsp eu3 (shMachine.R_len k3) q
  obtain ⟨p4, q⟩ := rsp eu4 rfl q
  obtain ⟨p5, q⟩ := rsp eu5 rfl q
  obtain ⟨p6, q⟩ := rsp eu6 rfl q
  obtain ⟨p7, q⟩ := rsp eu7 rfl q
  obtain ⟨p8, q⟩ := rsp eu8 rfl q
  exact ⟨rng_one p0, p1, p2, p3, rng_one p4, rng_one p5, rng_one p6, rng_one p7, rng_one p8, rng_one q⟩)
 clear eu0 eu1 eu2 eu3 eu4 eu5 eu6 eu7 eu8
 obtain ⟨v0, rv0, ev0, l0, v1, rv1, ev1, l1, v2, rv2, ev2, l2, v3, rv3, ev3, l3, v4, rv4, ev4, l4, v5, rv5, ev5, l5, v6, rv6, ev6, l6, v7, rv7, ev7, l7, v8, rv8, ev8, l8, l9⟩ := h'
 generalize rv8 = v9 at *
 obtain rfl := (show v0 = [.int .i64 x0] from l0)
 obtain rfl := (show v4 = [.string x4] from l4)
 have ql5 := l5; obtain ⟨B5, d5, rfl, _⟩ := ql5
 have ql6 := l6; obtain ⟨B6, d6, rfl, _⟩ := ql6
 obtain rfl := (show v7 = [.int .i64 x7] from l7)
 have ql8 := l8; obtain ⟨B8, d8, rfl, _⟩ := ql8
 obtain rfl := (show v9 = [.string x9] from l9)
 have HH := Lib.hid (show ∀ (W : World) (b : Nat) (t : TypeId), Blk W b t us.toArray → W.cell? ⟨b, 0, none⟩ = some (.int .i64 x0) ∧ W.rangeAt b 1 v1 ∧ W.rangeAt b 22 v2 ∧ W.rangeAt b 25 v3 ∧ W.cell? ⟨b, 46, none⟩ = some (.string x4) ∧ W.cell? ⟨b, 47, none⟩ = some (.slice B5 x5.length d5) ∧ W.cell? ⟨b, 48, none⟩ = some (.slice B6 x6.length d6) ∧ W.cell? ⟨b, 49, none⟩ = some (.int .i64 x7) ∧ W.cell? ⟨b, 50, none⟩ = some (.slice B8 x8.length d8) ∧ W.cell? ⟨b, 51, none⟩ = some (.string x9) from fun W b t hB => by
  have q := blk_all hB
  obtain ⟨p0, q⟩ := rsp ev0 rfl q
  obtain ⟨p1, q⟩ := rsp ev1 (shMachine.R_len l1) q
  obtain ⟨p2, q⟩ := rsp ev2 (shTrans.R_len l2) q
  obtain ⟨p3, q⟩ := rsp ev3 (shMachine.R_len l3) q
  obtain ⟨p4, q⟩ := rsp ev4 rfl q
  obtain ⟨p5, q⟩ := rsp ev5 rfl q
  obtain ⟨p6, q⟩ := rsp ev6 rfl q
  obtain ⟨p7, q⟩ := rsp ev7 rfl q
  obtain ⟨p8, q⟩ := rsp ev8 rfl q
  exact ⟨rng_one p0, p1, p2, p3, rng_one p4, rng_one p5, rng_one p6, rng_one p7, rng_one p8, rng_one q⟩)
 clear ev0 ev1 ev2 ev3 ev4 ev5 ev6 ev7 ev8
 have R0 := (((((((((((((((Stand.nil w).ad shMachine.R u1 X1 hhi k1 shMachine.R_keep).ad shTrans.R u2 X2 hhi k2 shTrans.R_keep).ad shMachine.R u3 X3 hhi k3 shMachine.R_keep).ad (Sh.row 9 shS).R [.slice A5 x5.length c5] x5 hhi k5 (Sh.row 9 shS).R_keep).ad (Sh.row 231 shLock).R [.slice A6 x6.length c6] x6 hhi k6 (Sh.row 231 shLock).R_keep).ad (Sh.row 9 shS).R [.slice A8 x8.length c8] x8 hhi k8 (Sh.row 9 shS).R_keep).ad shMachine.R v1 X1 hhi' l1 shMachine.R_keep).ad shTrans.R v2 X2 hhi' l2 shTrans.R_keep).ad shMachine.R v3 X3 hhi' l3 shMachine.R_keep).ad (Sh.row 9 shS).R [.slice B5 x5.length d5] x5 hhi' l5 (Sh.row 9 shS).R_keep).ad (Sh.row 231 shLock).R [.slice B6 x6.length d6] x6 hhi' l6 (Sh.row 231 shLock).R_keep).ad (Sh.row 9 shS).R [.slice B8 x8.length d8] x8 hhi' l8 (Sh.row 9 shS).R_keep).box 159 vs.toArray).box 159 us.toArray)
 rw [heap_alloc_size1] at R0
 have HR0 := Lib.hid R0
 have HZ1 := slH sizeIMachine k1
 have HY1 := slH sizeIMachine l1
 have HZ2 := slH sizeITrans k2
 have HY2 := slH sizeITrans l2
 have HZ3 := slH sizeIMachine k3
 have HY3 := slH sizeIMachine l3
 clear R0 k1 l1 k2 l2 k3 l3 k5 l5 k6 l6 k8 l8
 go_enter Tryz.func161, Tryz.ntmps161
 have f0 := (HG.out _ _ _ (HR0.out.get 1 rfl)).1
 have g0 := (HH.out _ _ _ (HR0.out.get 0 rfl)).1
 go_wp2_with (first | fail | (refine wlg w.heap.size 1 u1 (HG.out _ _ _ (HR0.out.get 1 rfl)).2.1 Tryz.underlying154 HZ1.out ?_) | (refine wlg (w.heap.size + 1) 1 v1 (HH.out _ _ _ (HR0.out.get 0 rfl)).2.1 Tryz.underlying154 HY1.out ?_))
 refine (eqMachine_o X1 u1 v1 lo hi lo' hi' _ (HR0.out.get 13 rfl) (HR0.out.get 7 rfl) (HR0.out.le 13 rfl) (HR0.out.le 7 rfl) ft1).mono ?_
 rintro e1 w1 ⟨rfl, hb1⟩
 have HR1 := Lib.hid (HR0.out.below hb1)
 clear f0 g0
 clear hb1 HR0
 go_wp2_with (first | fail | (refine wlg w.heap.size 22 u2 (HG.out _ _ _ (HR1.out.get 1 rfl)).2.2.1 Tryz.underlying157 HZ2.out ?_) | (refine wlg (w.heap.size + 1) 22 v2 (HH.out _ _ _ (HR1.out.get 0 rfl)).2.2.1 Tryz.underlying157 HY2.out ?_))
 refine (eqTrans_o X2 u2 v2 lo hi lo' hi' _ (HR1.out.get 12 rfl) (HR1.out.get 6 rfl) (HR1.out.le 12 rfl) (HR1.out.le 6 rfl) ft2).mono ?_
 rintro e2 w2 ⟨rfl, hb2⟩
 have HR2 := Lib.hid (HR1.out.below hb2)
 clear hb2 HR1
 go_wp2_with (first | fail | (refine wlg w.heap.size 25 u3 (HG.out _ _ _ (HR2.out.get 1 rfl)).2.2.2.1 Tryz.underlying154 HZ3.out ?_) | (refine wlg (w.heap.size + 1) 25 v3 (HH.out _ _ _ (HR2.out.get 0 rfl)).2.2.2.1 Tryz.underlying154 HY3.out ?_))
 refine (eqMachine_o X3 u3 v3 lo hi lo' hi' _ (HR2.out.get 11 rfl) (HR2.out.get 5 rfl) (HR2.out.le 11 rfl) (HR2.out.le 5 rfl) ft3).mono ?_
 rintro e3 w3 ⟨rfl, hb3⟩
 have HR3 := Lib.hid (HR2.out.below hb3)
 clear hb3 HR2
 have f4 := (HG.out _ _ _ (HR3.out.get 1 rfl)).2.2.2.2.1
 have g4 := (HH.out _ _ _ (HR3.out.get 0 rfl)).2.2.2.2.1
 have f5 := (HG.out _ _ _ (HR3.out.get 1 rfl)).2.2.2.2.2.1
 have g5 := (HH.out _ _ _ (HR3.out.get 0 rfl)).2.2.2.2.2.1
 go_wp2_with fail
 refine (eqStringS_f A5 B5 c5 d5 x5 lo hi lo' hi' _ (HR3.out.get 10 rfl) (HR3.out.get 4 rfl) (HR3.out.le 10 rfl) (HR3.out.le 4 rfl) ft5).mono ?_
 rintro e5 w5 ⟨rfl, hb5⟩
 have HR4 := Lib.hid (HR3.out.below hb5)
 clear f4 g4 f5 g5
 clear hb5 HR3
 have f6 := (HG.out _ _ _ (HR4.out.get 1 rfl)).2.2.2.2.2.2.1
 have g6 := (HH.out _ _ _ (HR4.out.get 0 rfl)).2.2.2.2.2.2.1
 go_wp2_with fail
 refine (eqLockS_f A6 B6 c6 d6 x6 lo hi lo' hi' _ (HR4.out.get 9 rfl) (HR4.out.get 3 rfl) (HR4.out.le 9 rfl) (HR4.out.le 3 rfl) ft6).mono ?_
 rintro e6 w6 ⟨rfl, hb6⟩
 have HR5 := Lib.hid (HR4.out.below hb6)
 clear f6 g6
 clear hb6 HR4
 have f7 := (HG.out _ _ _ (HR5.out.get 1 rfl)).2.2.2.2.2.2.2.1
 have g7 := (HH.out _ _ _ (HR5.out.get 0 rfl)).2.2.2.2.2.2.2.1
 have f8 := (HG.out _ _ _ (HR5.out.get 1 rfl)).2.2.2.2.2.2.2.2.1
 have g8 := (HH.out _ _ _ (HR5.out.get 0 rfl)).2.2.2.2.2.2.2.2.1
 go_wp2_with fail
 refine (eqStringS_f A8 B8 c8 d8 x8 lo hi lo' hi' _ (HR5.out.get 8 rfl) (HR5.out.get 2 rfl) (HR5.out.le 8 rfl) (HR5.out.le 2 rfl) ft8).mono ?_
 rintro e8 w8 ⟨rfl, hb8⟩
 have HR6 := Lib.hid (HR5.out.below hb8)
 clear f7 g7 f8 g8
 clear hb8 HR5
 have f9 := (HG.out _ _ _ (HR6.out.get 1 rfl)).2.2.2.2.2.2.2.2.2
 have g9 := (HH.out _ _ _ (HR6.out.get 0 rfl)).2.2.2.2.2.2.2.2.2
 go_wp2_with fail
 go_ret
 exact ⟨rfl, HR6.out.1⟩
theorem eqJobS_f (A B : Option Addr) (c d : Nat) (xs : List TyJob) (lo hi lo' hi' : Nat) (w : World) (h : (Sh.row 159 shJob).R w lo hi [.slice A xs.length c] xs) (h' : (Sh.row 159 shJob).R w lo' hi' [.slice B xs.length d] xs) (hhi : hi ≤ w.heap.size) (hhi' : hi' ≤ w.heap.size) (hf : (Sh.row 159 shJob).fit 4294967296 xs) :
  Calls Tryz.prog 88 #[.slice A xs.length c, .slice B xs.length d] w fun e w' => e = .returned (.bool true) ∧ Below w.heap.size w w' := by
 have hn := hf.1
 have HA := Lib.hid h; have HA' := Lib.hid h'; have HF := Lib.hid hf.2
 clear h h' hf
 go_enter Tryz.func88, Tryz.ntmps88
 go_wp2_with fail
 go_loopw [5] (fun i wr => ∃ k : Nat, k ≤ xs.length ∧ i = .int .i64 k ∧ Below w.heap.size w wr) (fun i _ => xs.length - (intOf i).toNat)
 case atStart => exact ⟨0, Nat.zero_le _, rfl, Below.refl _ _⟩
 case round =>
  obtain ⟨k, hk, rfl, hb⟩ := hrel
  by_cases hlt : k < xs.length
  ·obtain ⟨b, off, rfl, hb1, hb2, us, hc, hX⟩ := row_at ((Sh.row 159 shJob).R_below HA.out hb hhi) hlt
   obtain ⟨b', off', rfl, hb1', hb2', us', hc', hX'⟩ := row_at ((Sh.row 159 shJob).R_below HA'.out hb hhi') hlt
   have HX := Lib.hid (HF.out _ (getD_in (d := shJob.d) hlt))
   generalize xs.getD k shJob.d = X at *
   have hsz := hb.size
   have HR := Lib.hid (show shJob.R wr.drew lo hi us X from shJob.R_below hX (below_drewN' wr 1) (by omega)); have HR' := Lib.hid (show shJob.R wr.drew lo' hi' us' X from shJob.R_below hX' (below_drewN' wr 1) (by omega))
   have HC := Lib.hid (show wr.drew.rangeAt b (off + k * 52) us from rng_of hc); have HC' := Lib.hid (show wr.drew.rangeAt b' (off' + k * 52) us' from rng_of hc')
   have HZ := slH sizeIJob hX; have HZ' := slH sizeIJob hX'
   have HB := Lib.hid hb.drew
   have hwi : hi ≤ wr.drew.heap.size := (show hi ≤ wr.heap.size by omega)
   have hwi' : hi' ≤ wr.drew.heap.size := (show hi' ≤ wr.heap.size by omega)
   clear hb hX hX' hc hc'
   go_upto_region 6 with fail
   refine AnyT.region (fun _ => false) (fun W => W.rangeAt b (off + k * 52) us ∧ W.rangeAt b' (off' + k * 52) us') (by kernel_rfl) ⟨HC.out, HC'.out⟩ (fun hHeld => ?_)
   generalize wr.drew = w4 at *
   (refine AnyT.ta 0 17 ?_; simp only [Act.put, za, zb, zc])
   (refine AnyT.ta 1 18 ?_; simp only [Act.put, za, zb, zc])
   (refine AnyT.ta 2 19 ?_; simp only [Act.put, za, zb, zc])
   refine AnyT.tx 3 20 (.agg us.toArray) (fun W hS => exec_loadMid _ _ rfl b (off + k * 52) rfl us hS.1 Tryz.underlying159 rfl HZ.out) ?_
   simp only [Act.put, za, zb, zc]
   (refine AnyT.ta 4 21 ?_; simp only [Act.put, za, zb, zc])
   (refine AnyT.ta 5 22 ?_; simp only [Act.put, za, zb, zc])
   (refine AnyT.ta 6 23 ?_; simp only [Act.put, za, zb, zc])
   refine AnyT.tx 7 24 (.agg us'.toArray) (fun W hS => exec_loadMid _ _ rfl b' (off' + k * 52) rfl us' hS.2 Tryz.underlying159 rfl HZ'.out) ?_
   simp only [Act.put, za, zb, zc]
   ((refine AnyT.one (i := 8) (by kernel_rfl) rfl (fun K hK => ?_)))
   go_simp
   refine (eqJob_o X us us' lo hi lo' hi' w4 HR.out HR'.out hwi hwi' HX.out).mono ?_
   rintro e5 w5 ⟨rfl, hb5⟩
   go_simp
   have HB5 := Lib.hid (HB.out.trans (hb5.mono HB.out.size))
   refine hK.out _ _ ⟨rng_below HC.out hb5 (by omega), rng_below HC'.out hb5 (by omega)⟩ (fun hHeld => ?_)
   clear hK K hb5 HC HC'
   (try simp only [Act.put, za, zb, zc])
   (refine AnyT.ta 9 26 ?_; simp only [Act.put, za, zb, zc])
   refine AnyT.done (by kernel_rfl) ?_ _
   clear hHeld
   go_wp2_with fail
   go_roundw
   case rel => exact ⟨k + 1, by omega, by go_num, HB5.out⟩
   case measure => simp [intOf]; omega
  ·obtain rfl : k = xs.length := by omega
   have HB := Lib.hid hb; clear hb
   go_wp2_with fail
   go_ret
   exact ⟨rfl, HB.out⟩
end Go.Proofs.YtgnmollbnopigaaGreat
