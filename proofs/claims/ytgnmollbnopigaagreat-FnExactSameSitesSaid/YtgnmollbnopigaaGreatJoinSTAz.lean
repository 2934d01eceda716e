/- Job: walks field by field (eq,eqS). Printed by gen_big.py. -/
import Derived.Test.YtgnmollbnopigaaGreatJoinSTAt
set_option maxHeartbeats 16000000
set_option maxRecDepth 100000
namespace Go.Proofs.YtgnmollbnopigaaGreat
open Go.RowKit
theorem eqJob_o (X : TyJob) (vs us : List Value) (lo hi lo' hi' : Nat) (w : World) (h : shJob.R w lo hi vs X) (h' : shJob.R w lo' hi' us X) (hhi : hi ≤ w.heap.size) (hhi' : hi' ≤ w.heap.size) (hf : shJob.fit 4294967296 X) :
  Calls Tryz.prog 161 #[.agg vs.toArray, .agg us.toArray] w fun e w' => e = .returned (.bool true) ∧ Below w.heap.size w w' := by
 obtain ⟨x0, X1, X2, X3, x4, x5, x6, x7, x8, x9⟩ := X
 obtain ⟨ft0, ft1, ft2, ft3, ft4, ft5, ft6, ft7, ft8, ft9⟩ := hf
 obtain ⟨u0, ru0, eu0, k0, u1, ru1, eu1, k1, u2, ru2, eu2, k2, u3, ru3, eu3, k3, u4, ru4, eu4, k4, u5, ru5, eu5, k5, u6, ru6, eu6, k6, u7, ru7, eu7, k7, u8, ru8, eu8, k8, k9⟩ := h
 generalize ru8 = u9 at *
 obtain rfl := (show u0 = [.int .i64 x0] from k0)
 obtain rfl := (show u4 = [.string x4] from k4)
 have qk5 := k5; obtain ⟨A5, c5, rfl, _⟩ := qk5
 have qk6 := k6; obtain ⟨A6, c6, rfl, _⟩ := qk6
 obtain rfl := (show u7 = [.int .i64 x7] from k7)
 have qk8 := k8; obtain ⟨A8, c8, rfl, _⟩ := qk8
 obtain rfl := (show u9 = [.string x9] from k9)
 have HG := Lib.hid (show ∀ (W : World) (b : Nat) (t : TypeId), Blk W b t vs.toArray → W.cell? ⟨b, 0, none⟩ = some (.int .i64 x0) ∧ W.rangeAt b 1 u1 ∧ W.rangeAt b 22 u2 ∧ W.rangeAt b 25 u3 ∧ W.cell? ⟨b, 46, none⟩ = some (.string x4) ∧ W.cell? ⟨b, 47, none⟩ = some (.slice A5 x5.length c5) ∧ W.cell? ⟨b, 48, none⟩ = some (.slice A6 x6.length c6) ∧ W.cell? ⟨b, 49, none⟩ = some (.int .i64 x7) ∧ W.cell? ⟨b, 50, none⟩ = some (.slice A8 x8.length c8) ∧ W.cell? ⟨b, 51, none⟩ = some (.string x9) from fun W b t hB => by
  have q := blk_all hB
  obtain ⟨p0, q⟩ := rsp eu0 rfl q
  obtain ⟨p1, q⟩ := rsp eu1 (shMachine.R_len k1) q
  obtain ⟨p2, q⟩ := rsp eu2 (shTrans.R_len k2) q
  obtain ⟨p3, q⟩ := rsp eu3 (shMachine.R_len k3) q
  obtain ⟨p4, q⟩ := rsp eu4 rfl q
  obtain ⟨p5, q⟩ := rsp eu5 rfl q
  obtain ⟨p6, q⟩ := rsp eu6 rfl q
  obtain ⟨p7, q⟩ := rsp eu7 rfl q
  obtain ⟨p8, q⟩ := rsp eu8 rfl q
  exact ⟨rng_one p0, p1, p2, p3, rng_one p4, rng_one p5, rng_one p6, rng_one p7, rng_one p8, rng_one q⟩)
 clear eu0 eu1 eu2 eu3 eu4 eu5 eu6 eu7 eu8
 obtain ⟨v0, rv0, ev0, l0, v1, rv1, ev1, l1, v2, rv2, ev2, l2, v3, rv3, ev3, l3, v4, rv4, ev4, l4, v5, rv5, ev5, l5, v6, rv6, ev6, l6, v7, rv7, ev7, l7, v8, rv8, ev8, l8, l9⟩ := h'
 generalize rv8 = v9 at *
 obtain rfl := (show v0 = [.int .i64 x0] from l0)
 obtain rfl := (show v4 = [.string x4] from l4)
 have ql5 := l5; obtain ⟨B5, d5, rfl, _⟩ := ql5
 have ql6 := l6; obtain ⟨B6, d6, rfl, _⟩ := ql6
 obtain rfl := (show v7 = [.int .i64 x7] from l7)
 have ql8 := l8; obtain ⟨B8, d8, rfl, _⟩ := ql8
 obtain rfl := (show v9 = [.string x9] from l9)
 have HH := Lib.hid (show ∀ (W : World) (b : Nat) (t : TypeId), Blk W b t us.toArray → W.cell? ⟨b, 0, none⟩ = some (.int .i64 x0) ∧ W.rangeAt b 1 v1 ∧ W.rangeAt b 22 v2 ∧ W.rangeAt b 25 v3 ∧ W.cell? ⟨b, 46, none⟩ = some (.string x4) ∧ W.cell? ⟨b, 47, none⟩ = some (.slice B5 x5.length d5) ∧ W.cell? ⟨b, 48, none⟩ = some (.slice B6 x6.length d6) ∧ W.cell? ⟨b, 49, none⟩ = some (.int .i64 x7) ∧ W.cell? ⟨b, 50, none⟩ = some (.slice B8 x8.length d8) ∧ W.cell? ⟨b, 51, none⟩ = some (.string x9) from fun W b t hB => by
  have q := blk_all hB
  obtain ⟨p0, q⟩ := rsp ev0 rfl q
  obtain ⟨p1, q⟩ := rsp ev1 (shMachine.R_len l1) q
  obtain ⟨p2, q⟩ := rsp ev2 (shTrans.R_len l2) q
  obtain ⟨p3, q⟩ := rsp ev3 (shMachine.R_len l3) q
  obtain ⟨p4, q⟩ := rsp ev4 rfl q
  obtain ⟨p5, q⟩ := rsp ev5 rfl q
  obtain ⟨p6, q⟩ := rsp ev6 rfl q
  obtain ⟨p7, q⟩ := rsp ev7 rfl q
  obtain ⟨p8, q⟩ := rsp ev8 rfl q
  exact ⟨rng_one p0, p1, p2, p3, rng_one p4, rng_one p5, rng_one p6, rng_one p7, rng_one p8, rng_one q⟩)
 clear ev0 ev1 ev2 ev3 ev4 ev5 ev6 ev7 ev8
 have R0 := (((((((((((((((Stand.nil w).ad shMachine.R u1 X1 hhi k1 shMachine.R_keep).ad shTrans.R u2 X2 hhi k2 shTrans.R_keep).ad shMachine.R u3 X3 hhi k3 shMachine.R_keep).ad (Sh.row 9 shS).R [.slice A5 x5.length c5] x5 hhi k5 (Sh.row 9 shS).R_keep).ad (Sh.row 231 shLock).R [.slice A6 x6.length c6] x6 hhi k6 (Sh.row 231 shLock).R_keep).ad (Sh.row 9 shS).R [.slice A8 x8.length c8] x8 hhi k8 (Sh.row 9 shS).R_keep).ad shMachine.R v1 X1 hhi' l1 shMachine.R_keep).ad shTrans.R v2 X2 hhi' l2 shTrans.R_keep).ad shMachine.R v3 X3 hhi' l3 shMachine.R_keep).ad (Sh.row 9 shS).R [.slice B5 x5.length d5] x5 hhi' l5 (Sh.row 9 shS).R_keep).ad (Sh.row 231 shLock).R [.slice B6 x6.length d6] x6 hhi' l6 (Sh.row 231 shLock).R_keep).ad (Sh.row 9 shS).R [.slice B8 x8.length d8] x8 hhi' l8 (Sh.row 9 shS).R_keep).box 159 vs.toArray).box 159 us.toArray)
 rw [heap_alloc_size1] at R0
 have HR0 := Lib.hid R0
 have HZ1 := slH sizeIMachine k1
 have HY1 := slH sizeIMachine l1
 have HZ2 := slH sizeITrans k2
 have HY2 := slH sizeITrans l2
 have HZ3 := slH sizeIMachine k3
 have HY3 := slH sizeIMachine l3
 clear R0 k1 l1 k2 l2 k3 l3 k5 l5 k6 l6 k8 l8
 go_enter Tryz.func161, Tryz.ntmps161
 have f0 := (HG.out _ _ _ (HR0.out.get 1 rfl)).1
 have g0 := (HH.out _ _ _ (HR0.out.get 0 rfl)).1
 go_wp2_with (first | fail | (refine wlg w.heap.size 1 u1 (HG.out _ _ _ (HR0.out.get 1 rfl)).2.1 Tryz.underlying154 HZ1.out ?_) | (refine wlg (w.heap.size + 1) 1 v1 (HH.out _ _ _ (HR0.out.get 0 rfl)).2.1 Tryz.underlying154 HY1.out ?_))
 refine (eqMachine_o X1 u1 v1 lo hi lo' hi' _ (HR0.out.get 13 rfl) (HR0.out.get 7 rfl) (HR0.out.le 13 rfl) (HR0.out.le 7 rfl) ft1).mono ?_
 rintro e1 w1 ⟨rfl, hb1⟩
 have HR1 := Lib.hid (HR0.out.below hb1)
 clear f0 g0
 clear hb1 HR0
 go_wp2_with (first | fail | (refine wlg w.heap.size 22 u2 (HG.out _ _ _ (HR1.out.get 1 rfl)).2.2.1 Tryz.underlying157 HZ2.out ?_) | (refine wlg (w.heap.size + 1) 22 v2 (HH.out _ _ _ (HR1.out.get 0 rfl)).2.2.1 Tryz.underlying157 HY2.out ?_))
 refine (eqTrans_o X2 u2 v2 lo hi lo' hi' _ (HR1.out.get 12 rfl) (HR1.out.get 6 rfl) (HR1.out.le 12 rfl) (HR1.out.le 6 rfl) ft2).mono ?_
 rintro e2 w2 ⟨rfl, hb2⟩
 have HR2 := Lib.hid (HR1.out.below hb2)
 clear hb2 HR1
 go_wp2_with (first | fail | (refine wlg w.heap.size 25 u3 (HG.out _ _ _ (HR2.out.get 1 rfl)).2.2.2.1 Tryz.underlying154 HZ3.out ?_) | (refine wlg (w.heap.size + 1) 25 v3 (HH.out _ _ _ (HR2.out.get 0 rfl)).2.2.2.1 Tryz.underlying154 HY3.out ?_))
 refine (eqMachine_o X3 u3 v3 lo hi lo' hi' _ (HR2.out.get 11 rfl) (HR2.out.get 5 rfl) (HR2.out.le 11 rfl) (HR2.out.le 5 rfl) ft3).mono ?_
 rintro e3 w3 ⟨rfl, hb3⟩
 have HR3 := Lib.hid (HR2.out.below hb3)
 clear hb3 HR2
 have f4 := (HG.out _ _ _ (HR3.out.get 1 rfl)).2.2.2.2.1
 have g4 := (HH.out _ _ _ (HR3.out.get 0 rfl)).2.2.2.2.1
 have f5 := (HG.out _ _ _ (HR3.out.get 1 rfl)).2.2.2.2.2.1
 have g5 := (HH.out _ _ _ (HR3.out.get 0 rfl)).2.2.2.2.2.1
 go_wp2_with fail
 refine (eqStringS_f A5 B5 c5 d5 x5 lo hi lo' hi' _ (HR3.out.get 10 rfl) (HR3.out.get 4 rfl) (HR3.out.le 10 rfl) (HR3.out.le 4 rfl) ft5).mono ?_
 rintro e5 w5 ⟨rfl, hb5⟩
 have HR4 := Lib.hid (HR3.out.below hb5)
 clear f4 g4 f5 g5
 clear hb5 HR3
 have f6 := (HG.out _ _ _ (HR4.out.get 1 rfl)).2.2.2.2.2.2.1
 have g6 := (HH.out _ _ _ (HR4.out.get 0 rfl)).2.2.2.2.2.2.1
 go_wp2_with fail
 refine (eqLockS_f A6 B6 c6 d6 x6 lo hi lo' hi' _ (HR4.out.get 9 rfl) (HR4.out.get 3 rfl) (HR4.out.le 9 rfl) (HR4.out.le 3 rfl) ft6).mono ?_
 rintro e6 w6 ⟨rfl, hb6⟩
 have HR5 := Lib.hid (HR4.out.below hb6)
 clear f6 g6
 clear hb6 HR4
 have f7 := (HG.out _ _ _ (HR5.out.get 1 rfl)).2.2.2.2.2.2.2.1
 have g7 := (HH.out _ _ _ (HR5.out.get 0 rfl)).2.2.2.2.2.2.2.1
 have f8 := (HG.out _ _ _ (HR5.out.get 1 rfl)).2.2.2.2.2.2.2.2.1
 have g8 := (HH.out _ _ _ (HR5.out.get 0 rfl)).2.2.2.2.2.2.2.2.1
 go_wp2_with fail
 refine (eqStringS_f A8 B8 c8 d8 x8 lo hi lo' hi' _ (HR5.out.get 8 rfl) (HR5.out.get 2 rfl) (HR5.out.le 8 rfl) (HR5.out.le 2 rfl) ft8).mono ?_
 rintro e8 w8 ⟨rfl, hb8⟩
 have HR6 := Lib.hid (HR5.out.below hb8)
 clear f7 g7 f8 g8
 clear hb8 HR5
 have f9 := (HG.out _ _ _ (HR6.out.get 1 rfl)).2.2.2.2.2.2.2.2.2
 have g9 := (HH.out _ _ _ (HR6.out.get 0 rfl)).2.2.2.2.2.2.2.2.2
 go_wp2_with fail
 go_ret
 exact ⟨rfl, HR6.out.1⟩
theorem eqJobS_f (A B : Option Addr) (c d : Nat) (xs : List TyJob) (lo hi lo' hi' : Nat) (w : World) (h : (Sh.row 159 shJob).R w lo hi [.slice A xs.length c] xs) (h' : (Sh.row 159 shJob).R w lo' hi' [.slice B xs.length d] xs) (hhi : hi ≤ w.heap.size) (hhi' : hi' ≤ w.heap.size) (hf : (Sh.row 159 shJob).fit 4294967296 xs) :
  Calls Tryz.prog 88 #[.slice A xs.length c, .slice B xs.length d] w fun e w' => e = .returned (.bool true) ∧ Below w.heap.size w w' := by
 have hn := hf.1
 have HA := Lib.hid h; have HA' := Lib.hid h'; have HF := Lib.hid hf.2
 clear h h' hf
 go_enter Tryz.func88, Tryz.ntmps88
 go_wp2_with fail
 go_loopw [5] (fun i wr => ∃ k : Nat, k ≤ xs.length ∧ i = .int .i64 k ∧ Below w.heap.size w wr) (fun i _ => xs.length - (intOf i).toNat)
 case atStart => exact ⟨0, Nat.zero_le _, rfl, Below.refl _ _⟩
 case round =>
  obtain ⟨k, hk, rfl, hb⟩ := hrel
  by_cases hlt : k < xs.length
  ·obtain ⟨b, off, rfl, hb1, hb2, us, hc, hX⟩ := row_at ((Sh.row 159 shJob).R_below HA.out hb hhi) hlt
   obtain ⟨b', off', rfl, hb1', hb2', us', hc', hX'⟩ := row_at ((Sh.row 159 shJob).R_below HA'.out hb hhi') hlt
   have HX := Lib.hid (HF.out _ (getD_in (d := shJob.d) hlt))
   generalize xs.getD k shJob.d = X at *
   have hsz := hb.size
   have HR := Lib.hid (show shJob.R wr.drew lo hi us X from shJob.R_below hX (below_drewN' wr 1) (by omega)); have HR' := Lib.hid (show shJob.R wr.drew lo' hi' us' X from shJob.R_below hX' (below_drewN' wr 1) (by omega))
   have HC := Lib.hid (show wr.drew.rangeAt b (off + k * 52) us from rng_of hc); have HC' := Lib.hid (show wr.drew.rangeAt b' (off' + k * 52) us' from rng_of hc')
   have HZ := slH sizeIJob hX; have HZ' := slH sizeIJob hX'
   have HB := Lib.hid hb.drew
   have hwi : hi ≤ wr.drew.heap.size := (show hi ≤ wr.heap.size by omega)
   have hwi' : hi' ≤ wr.drew.heap.size := (show hi' ≤ wr.heap.size by omega)
   clear hb hX hX' hc hc'
   go_upto_region 6 with fail
   refine AnyT.region (fun _ => false) (fun W => W.rangeAt b (off + k * 52) us ∧ W.rangeAt b' (off' + k * 52) us') (by kernel_rfl) ⟨HC.out, HC'.out⟩ (fun hHeld => ?_)
   generalize wr.drew = w4 at *
   (refine AnyT.ta 0 17 ?_; simp only [Act.put, za, zb, zc])
   (refine AnyT.ta 1 18 ?_; simp only [Act.put, za, zb, zc])
   (refine AnyT.ta 2 19 ?_; simp only [Act.put, za, zb, zc])
   refine AnyT.tx 3 20 (.agg us.toArray) (fun W hS => exec_loadMid _ _ rfl b (off + k * 52) rfl us hS.1 Tryz.underlying159 rfl HZ.out) ?_
   simp only [Act.put, za, zb, zc]
   (refine AnyT.ta 4 21 ?_; simp only [Act.put, za, zb, zc])
   (refine AnyT.ta 5 22 ?_; simp only [Act.put, za, zb, zc])
   (refine AnyT.ta 6 23 ?_; simp only [Act.put, za, zb, zc])
   refine AnyT.tx 7 24 (.agg us'.toArray) (fun W hS => exec_loadMid _ _ rfl b' (off' + k * 52) rfl us' hS.2 Tryz.underlying159 rfl HZ'.out) ?_
   simp only [Act.put, za, zb, zc]
   ((refine AnyT.one (i := 8) (by kernel_rfl) rfl (fun K hK => ?_)))
   go_simp
   refine (eqJob_o X us us' lo hi lo' hi' w4 HR.out HR'.out hwi hwi' HX.out).mono ?_
   rintro e5 w5 ⟨rfl, hb5⟩
   go_simp
   have HB5 := Lib.hid (HB.out.trans (hb5.mono HB.out.size))
   refine hK.out _ _ ⟨rng_below HC.out hb5 (by omega), rng_below HC'.out hb5 (by omega)⟩ (fun hHeld => ?_)
   clear hK K hb5 HC HC'
   (try simp only [Act.put, za, zb, zc])
   (refine AnyT.ta 9 26 ?_; simp only [Act.put, za, zb, zc])
   refine AnyT.done (by kernel_rfl) ?_ _
   clear hHeld
   go_wp2_with fail
   go_roundw
   case rel => exact ⟨k + 1, by omega, by go_num, HB5.out⟩
   case measure => simp [intOf]; omega
  ·obtain rfl : k = xs.length := by omega
   have HB := Lib.hid hb; clear hb
   go_wp2_with fail
   go_ret
   exact ⟨rfl, HB.out⟩
end Go.Proofs.YtgnmollbnopigaaGreat
/- World, Base, Site: walks field by field (eq). Printed by gen_big.py. -/
namespace Go.Proofs.YtgnmollbnopigaaGreat
open Go.RowKit
theorem eqWorld_o (X : TyWorld) (vs us : List Value) (lo hi lo' hi' : Nat) (w : World) (h : shWorld.R w lo hi vs X) (h' : shWorld.R w lo' hi' us X) (hhi : hi ≤ w.heap.size) (hhi' : hi' ≤ w.heap.size) (hf : shWorld.fit 4294967296 X) :
  Calls Tryz.prog 31 #[.agg vs.toArray, .agg us.toArray] w fun e w' => e = .returned (.bool true) ∧ Below w.heap.size w w' := by
 obtain ⟨x0, X1, x2, X3, X4, x5, x6, x7⟩ := X
 obtain ⟨ft0, ft1, ft2, ft3, ft4, ft5, ft6, ft7⟩ := hf
 obtain ⟨u0, ru0, eu0, k0, u1, ru1, eu1, k1, u2, ru2, eu2, k2, u3, ru3, eu3, k3, u4, ru4, eu4, k4, u5, ru5, eu5, k5, u6, ru6, eu6, k6, k7⟩ := h
 generalize ru6 = u7 at *
 obtain rfl := (show u0 = [.int .i64 x0] from k0)
 have qk2 := k2; obtain ⟨A2, c2, rfl, _⟩ := qk2
 have qk5 := k5; obtain ⟨A5, c5, rfl, _⟩ := qk5
 obtain rfl := (show u6 = [.int .i64 x6] from k6)
 have qk7 := k7; obtain ⟨A7, c7, rfl, _⟩ := qk7
 have HG := Lib.hid (show ∀ (W : World) (b : Nat) (t : TypeId), Blk W b t vs.toArray → W.cell? ⟨b, 0, none⟩ = some (.int .i64 x0) ∧ W.rangeAt b 1 u1 ∧ W.cell? ⟨b, 3, none⟩ = some (.slice A2 x2.length c2) ∧ W.rangeAt b 4 u3 ∧ W.rangeAt b 5 u4 ∧ W.cell? ⟨b, 7, none⟩ = some (.slice A5 x5.length c5) ∧ W.cell? ⟨b, 8, none⟩ = some (.int .i64 x6) ∧ W.cell? ⟨b, 9, none⟩ = some (.slice A7 x7.length c7) from fun W b t hB => by
  have q := blk_all hB
  obtain ⟨p0, q⟩ := rsp eu0 rfl q
  obtain ⟨p1, q⟩ := rsp eu1 (shProgram.R_len k1) q
  obtain ⟨p2, q⟩ := rsp eu2 rfl q
  obtain ⟨p3, q⟩ := rsp eu3 (shTree.R_len k3) q
  obtain ⟨p4, q⟩ := rsp eu4 (shLocks.R_len k4) q
  obtain ⟨p5, q⟩ := rsp eu5 rfl q
  obtain ⟨p6, q⟩ := rsp eu6 rfl q
  exact ⟨rng_one p0, p1, rng_one p2, p3, p4, rng_one p5, rng_one p6, rng_one q⟩)
 clear eu0 eu1 eu2 eu3 eu4 eu5 eu6
 obtain ⟨v0, rv0, ev0, l0, v1, rv1, ev1, l1, v2, rv2, ev2, l2, v3, rv3, ev3, l3, v4, rv4, ev4, l4, v5, rv5, ev5, l5, v6, rv6, ev6, l6, l7⟩ := h'
 generalize rv6 = v7 at *
 obtain rfl := (show v0 = [.int .i64 x0] from l0)
 have ql2 := l2; obtain ⟨B2, d2, rfl, _⟩ := ql2
 have ql5 := l5; obtain ⟨B5, d5, rfl, _⟩ := ql5
 obtain rfl := (show v6 = [.int .i64 x6] from l6)
 have ql7 := l7; obtain ⟨B7, d7, rfl, _⟩ := ql7
 have HH := Lib.hid (show ∀ (W : World) (b : Nat) (t : TypeId), Blk W b t us.toArray → W.cell? ⟨b, 0, none⟩ = some (.int .i64 x0) ∧ W.rangeAt b 1 v1 ∧ W.cell? ⟨b, 3, none⟩ = some (.slice B2 x2.length d2) ∧ W.rangeAt b 4 v3 ∧ W.rangeAt b 5 v4 ∧ W.cell? ⟨b, 7, none⟩ = some (.slice B5 x5.length d5) ∧ W.cell? ⟨b, 8, none⟩ = some (.int .i64 x6) ∧ W.cell? ⟨b, 9, none⟩ = some (.slice B7 x7.length d7) from fun W b t hB => by
  have q := blk_all hB
  obtain ⟨p0, q⟩ := rsp ev0 rfl q
  obtain ⟨p1, q⟩ := rsp ev1 (shProgram.R_len l1) q
  obtain ⟨p2, q⟩ := rsp ev2 rfl q
  obtain ⟨p3, q⟩ := rsp ev3 (shTree.R_len l3) q
  obtain ⟨p4, q⟩ := rsp ev4 (shLocks.R_len l4) q
  obtain ⟨p5, q⟩ := rsp ev5 rfl q
  obtain ⟨p6, q⟩ := rsp ev6 rfl q
  exact ⟨rng_one p0, p1, rng_one p2, p3, p4, rng_one p5, rng_one p6, rng_one q⟩)
 clear ev0 ev1 ev2 ev3 ev4 ev5 ev6
 have R0 := (((((((((((((((Stand.nil w).ad shProgram.R u1 X1 hhi k1 shProgram.R_keep).ad (Sh.row 229 shTrigger).R [.slice A2 x2.length c2] x2 hhi k2 (Sh.row 229 shTrigger).R_keep).ad shTree.R u3 X3 hhi k3 shTree.R_keep).ad shLocks.R u4 X4 hhi k4 shLocks.R_keep).ad (Sh.row 159 shJob).R [.slice A5 x5.length c5] x5 hhi k5 (Sh.row 159 shJob).R_keep).ad (Sh.row 167 shBatch).R [.slice A7 x7.length c7] x7 hhi k7 (Sh.row 167 shBatch).R_keep).ad shProgram.R v1 X1 hhi' l1 shProgram.R_keep).ad (Sh.row 229 shTrigger).R [.slice B2 x2.length d2] x2 hhi' l2 (Sh.row 229 shTrigger).R_keep).ad shTree.R v3 X3 hhi' l3 shTree.R_keep).ad shLocks.R v4 X4 hhi' l4 shLocks.R_keep).ad (Sh.row 159 shJob).R [.slice B5 x5.length d5] x5 hhi' l5 (Sh.row 159 shJob).R_keep).ad (Sh.row 167 shBatch).R [.slice B7 x7.length d7] x7 hhi' l7 (Sh.row 167 shBatch).R_keep).box 74 vs.toArray).box 74 us.toArray)
 rw [heap_alloc_size1] at R0
 have HR0 := Lib.hid R0
 have HZ1 := slH sizeIProgram k1
 have HY1 := slH sizeIProgram l1
 have HZ3 := slH sizeITree k3
 have HY3 := slH sizeITree l3
 have HZ4 := slH sizeILocks k4
 have HY4 := slH sizeILocks l4
 clear R0 k1 l1 k2 l2 k3 l3 k4 l4 k5 l5 k7 l7
 go_enter Tryz.func31, Tryz.ntmps31
 have f0 := (HG.out _ _ _ (HR0.out.get 1 rfl)).1
 have g0 := (HH.out _ _ _ (HR0.out.get 0 rfl)).1
 go_wp2_with (first | fail | (refine wlg w.heap.size 1 u1 (HG.out _ _ _ (HR0.out.get 1 rfl)).2.1 Tryz.underlying62 HZ1.out ?_) | (refine wlg (w.heap.size + 1) 1 v1 (HH.out _ _ _ (HR0.out.get 0 rfl)).2.1 Tryz.underlying62 HY1.out ?_))
 refine (eqProgram_o X1 u1 v1 lo hi lo' hi' _ (HR0.out.get 13 rfl) (HR0.out.get 7 rfl) (HR0.out.le 13 rfl) (HR0.out.le 7 rfl) ft1).mono ?_
 rintro e1 w1 ⟨rfl, hb1⟩
 have HR1 := Lib.hid (HR0.out.below hb1)
 clear f0 g0
 clear hb1 HR0
 have f2 := (HG.out _ _ _ (HR1.out.get 1 rfl)).2.2.1
 have g2 := (HH.out _ _ _ (HR1.out.get 0 rfl)).2.2.1
 go_wp2_with fail
 refine (eqTriggerS_f A2 B2 c2 d2 x2 lo hi lo' hi' _ (HR1.out.get 12 rfl) (HR1.out.get 6 rfl) (HR1.out.le 12 rfl) (HR1.out.le 6 rfl) ft2).mono ?_
 rintro e2 w2 ⟨rfl, hb2⟩
 have HR2 := Lib.hid (HR1.out.below hb2)
 clear f2 g2
 clear hb2 HR1
 go_wp2_with (first | fail | (refine wlg w.heap.size 4 u3 (HG.out _ _ _ (HR2.out.get 1 rfl)).2.2.2.1 Tryz.underlying66 HZ3.out ?_) | (refine wlg (w.heap.size + 1) 4 v3 (HH.out _ _ _ (HR2.out.get 0 rfl)).2.2.2.1 Tryz.underlying66 HY3.out ?_))
 refine (eqTree_o X3 u3 v3 lo hi lo' hi' _ (HR2.out.get 11 rfl) (HR2.out.get 5 rfl) (HR2.out.le 11 rfl) (HR2.out.le 5 rfl) ft3).mono ?_
 rintro e3 w3 ⟨rfl, hb3⟩
 have HR3 := Lib.hid (HR2.out.below hb3)
 clear hb3 HR2
 go_wp2_with (first | fail | (refine wlg w.heap.size 5 u4 (HG.out _ _ _ (HR3.out.get 1 rfl)).2.2.2.2.1 Tryz.underlying70 HZ4.out ?_) | (refine wlg (w.heap.size + 1) 5 v4 (HH.out _ _ _ (HR3.out.get 0 rfl)).2.2.2.2.1 Tryz.underlying70 HY4.out ?_))
 refine (eqLocks_o X4 u4 v4 lo hi lo' hi' _ (HR3.out.get 10 rfl) (HR3.out.get 4 rfl) (HR3.out.le 10 rfl) (HR3.out.le 4 rfl) ft4).mono ?_
 rintro e4 w4 ⟨rfl, hb4⟩
 have HR4 := Lib.hid (HR3.out.below hb4)
 clear hb4 HR3
 have f5 := (HG.out _ _ _ (HR4.out.get 1 rfl)).2.2.2.2.2.1
 have g5 := (HH.out _ _ _ (HR4.out.get 0 rfl)).2.2.2.2.2.1
 go_wp2_with fail
 refine (eqJobS_f A5 B5 c5 d5 x5 lo hi lo' hi' _ (HR4.out.get 9 rfl) (HR4.out.get 3 rfl) (HR4.out.le 9 rfl) (HR4.out.le 3 rfl) ft5).mono ?_
 rintro e5 w5 ⟨rfl, hb5⟩
 have HR5 := Lib.hid (HR4.out.below hb5)
 clear f5 g5
 clear hb5 HR4
 have f6 := (HG.out _ _ _ (HR5.out.get 1 rfl)).2.2.2.2.2.2.1
 have g6 := (HH.out _ _ _ (HR5.out.get 0 rfl)).2.2.2.2.2.2.1
 have f7 := (HG.out _ _ _ (HR5.out.get 1 rfl)).2.2.2.2.2.2.2
 have g7 := (HH.out _ _ _ (HR5.out.get 0 rfl)).2.2.2.2.2.2.2
 go_wp2_with fail
 refine (eqBatchS_f A7 B7 c7 d7 x7 lo hi lo' hi' _ (HR5.out.get 8 rfl) (HR5.out.get 2 rfl) (HR5.out.le 8 rfl) (HR5.out.le 2 rfl) ft7).mono ?_
 rintro e7 w7 ⟨rfl, hb7⟩
 have HR6 := Lib.hid (HR5.out.below hb7)
 clear f6 g6 f7 g7
 clear hb7 HR5
 go_wp2_with fail
 go_ret
 exact ⟨rfl, HR6.out.1⟩
theorem eqBase_o (X : TyBase) (vs us : List Value) (lo hi lo' hi' : Nat) (w : World) (h : shBase.R w lo hi vs X) (h' : shBase.R w lo' hi' us X) (hhi : hi ≤ w.heap.size) (hhi' : hi' ≤ w.heap.size) (hf : shBase.fit 4294967296 X) :
  Calls Tryz.prog 32 #[.agg vs.toArray, .agg us.toArray] w fun e w' => e = .returned (.bool true) ∧ Below w.heap.size w w' := by
 obtain ⟨X0, X1, X2, x3, x4⟩ := X
 obtain ⟨ft0, ft1, ft2, ft3, ft4⟩ := hf
 obtain ⟨u0, ru0, eu0, k0, u1, ru1, eu1, k1, u2, ru2, eu2, k2, u3, ru3, eu3, k3, k4⟩ := h
 generalize ru3 = u4 at *
 obtain rfl := (show u3 = [.int .i64 x3] from k3)
 obtain rfl := (show u4 = [.int .i64 x4] from k4)
 have HG := Lib.hid (show ∀ (W : World) (b : Nat) (t : TypeId), Blk W b t vs.toArray → W.rangeAt b 0 u0 ∧ W.rangeAt b 2 u1 ∧ W.rangeAt b 15 u2 ∧ W.cell? ⟨b, 22, none⟩ = some (.int .i64 x3) ∧ W.cell? ⟨b, 23, none⟩ = some (.int .i64 x4) from fun W b t hB => by
  have q := blk_all hB
  obtain ⟨p0, q⟩ := rsp eu0 (shBtree.R_len k0) q
  obtain ⟨p1, q⟩ := rsp eu1 (shCache.R_len k1) q
  obtain ⟨p2, q⟩ := rsp eu2 (shJournal.R_len k2) q
  obtain ⟨p3, q⟩ := rsp eu3 rfl q
  exact ⟨p0, p1, p2, rng_one p3, rng_one q⟩)
 clear eu0 eu1 eu2 eu3
 obtain ⟨v0, rv0, ev0, l0, v1, rv1, ev1, l1, v2, rv2, ev2, l2, v3, rv3, ev3, l3, l4⟩ := h'
 generalize rv3 = v4 at *
 obtain rfl := (show v3 = [.int .i64 x3] from l3)
 obtain rfl := (show v4 = [.int .i64 x4] from l4)
 have HH := Lib.hid (show ∀ (W : World) (b : Nat) (t : TypeId), Blk W b t us.toArray → W.rangeAt b 0 v0 ∧ W.rangeAt b 2 v1 ∧ W.rangeAt b 15 v2 ∧ W.cell? ⟨b, 22, none⟩ = some (.int .i64 x3) ∧ W.cell? ⟨b, 23, none⟩ = some (.int .i64 x4) from fun W b t hB => by
  have q := blk_all hB
  obtain ⟨p0, q⟩ := rsp ev0 (shBtree.R_len l0) q
  obtain ⟨p1, q⟩ := rsp ev1 (shCache.R_len l1) q
  obtain ⟨p2, q⟩ := rsp ev2 (shJournal.R_len l2) q
  obtain ⟨p3, q⟩ := rsp ev3 rfl q
  exact ⟨p0, p1, p2, rng_one p3, rng_one q⟩)
 clear ev0 ev1 ev2 ev3
 have R0 := (((((((((Stand.nil w).ad shBtree.R u0 X0 hhi k0 shBtree.R_keep).ad shCache.R u1 X1 hhi k1 shCache.R_keep).ad shJournal.R u2 X2 hhi k2 shJournal.R_keep).ad shBtree.R v0 X0 hhi' l0 shBtree.R_keep).ad shCache.R v1 X1 hhi' l1 shCache.R_keep).ad shJournal.R v2 X2 hhi' l2 shJournal.R_keep).box 89 vs.toArray).box 89 us.toArray)
 rw [heap_alloc_size1] at R0
 have HR0 := Lib.hid R0
 have HZ0 := slH sizeIBtree k0
 have HY0 := slH sizeIBtree l0
 have HZ1 := slH sizeICache k1
 have HY1 := slH sizeICache l1
 have HZ2 := slH sizeIJournal k2
 have HY2 := slH sizeIJournal l2
 clear R0 k0 l0 k1 l1 k2 l2
 go_enter Tryz.func32, Tryz.ntmps32
 go_wp2_with (first | fail | (refine wlg w.heap.size 0 u0 (HG.out _ _ _ (HR0.out.get 1 rfl)).1 Tryz.underlying77 HZ0.out ?_) | (refine wlg (w.heap.size + 1) 0 v0 (HH.out _ _ _ (HR0.out.get 0 rfl)).1 Tryz.underlying77 HY0.out ?_))
 refine (eqBtree_o X0 u0 v0 lo hi lo' hi' _ (HR0.out.get 7 rfl) (HR0.out.get 4 rfl) (HR0.out.le 7 rfl) (HR0.out.le 4 rfl) ft0).mono ?_
 rintro e0 w0 ⟨rfl, hb0⟩
 have HR1 := Lib.hid (HR0.out.below hb0)
 clear hb0 HR0
 go_wp2_with (first | fail | (refine wlg w.heap.size 2 u1 (HG.out _ _ _ (HR1.out.get 1 rfl)).2.1 Tryz.underlying85 HZ1.out ?_) | (refine wlg (w.heap.size + 1) 2 v1 (HH.out _ _ _ (HR1.out.get 0 rfl)).2.1 Tryz.underlying85 HY1.out ?_))
 refine (eqCache_o X1 u1 v1 lo hi lo' hi' _ (HR1.out.get 6 rfl) (HR1.out.get 3 rfl) (HR1.out.le 6 rfl) (HR1.out.le 3 rfl) ft1).mono ?_
 rintro e1 w1 ⟨rfl, hb1⟩
 have HR2 := Lib.hid (HR1.out.below hb1)
 clear hb1 HR1
 go_wp2_with (first | fail | (refine wlg w.heap.size 15 u2 (HG.out _ _ _ (HR2.out.get 1 rfl)).2.2.1 Tryz.underlying87 HZ2.out ?_) | (refine wlg (w.heap.size + 1) 15 v2 (HH.out _ _ _ (HR2.out.get 0 rfl)).2.2.1 Tryz.underlying87 HY2.out ?_))
 refine (eqJournal_o X2 u2 v2 lo hi lo' hi' _ (HR2.out.get 5 rfl) (HR2.out.get 2 rfl) (HR2.out.le 5 rfl) (HR2.out.le 2 rfl) ft2).mono ?_
 rintro e2 w2 ⟨rfl, hb2⟩
 have HR3 := Lib.hid (HR2.out.below hb2)
 clear hb2 HR2
 have f3 := (HG.out _ _ _ (HR3.out.get 1 rfl)).2.2.2.1
 have g3 := (HH.out _ _ _ (HR3.out.get 0 rfl)).2.2.2.1
 have f4 := (HG.out _ _ _ (HR3.out.get 1 rfl)).2.2.2.2
 have g4 := (HH.out _ _ _ (HR3.out.get 0 rfl)).2.2.2.2
 go_wp2_with fail
 go_ret
 exact ⟨rfl, HR3.out.1⟩
theorem eqSite_o (X : TySite) (vs us : List Value) (lo hi lo' hi' : Nat) (w : World) (h : shSite.R w lo hi vs X) (h' : shSite.R w lo' hi' us X) (hhi : hi ≤ w.heap.size) (hhi' : hi' ≤ w.heap.size) (hf : shSite.fit 4294967296 X) :
  Calls Tryz.prog 9 #[.agg vs.toArray, .agg us.toArray] w fun e w' => e = .returned (.bool true) ∧ Below w.heap.size w w' := by
 obtain ⟨X0, X1, X2, x3, x4⟩ := X
 obtain ⟨ft0, ft1, ft2, ft3, ft4⟩ := hf
 obtain ⟨u0, ru0, eu0, k0, u1, ru1, eu1, k1, u2, ru2, eu2, k2, u3, ru3, eu3, k3, k4⟩ := h
 generalize ru3 = u4 at *
 obtain rfl := (show u3 = [.int .i64 x3] from k3)
 have qk4 := k4; obtain ⟨A4, c4, rfl, _⟩ := qk4
 have HG := Lib.hid (show ∀ (W : World) (b : Nat) (t : TypeId), Blk W b t vs.toArray → W.rangeAt b 0 u0 ∧ W.rangeAt b 10 u1 ∧ W.rangeAt b 34 u2 ∧ W.cell? ⟨b, 35, none⟩ = some (.int .i64 x3) ∧ W.cell? ⟨b, 36, none⟩ = some (.slice A4 x4.length c4) from fun W b t hB => by
  have q := blk_all hB
  obtain ⟨p0, q⟩ := rsp eu0 (shWorld.R_len k0) q
  obtain ⟨p1, q⟩ := rsp eu1 (shBase.R_len k1) q
  obtain ⟨p2, q⟩ := rsp eu2 (shTree.R_len k2) q
  obtain ⟨p3, q⟩ := rsp eu3 rfl q
  exact ⟨p0, p1, p2, rng_one p3, rng_one q⟩)
 clear eu0 eu1 eu2 eu3
 obtain ⟨v0, rv0, ev0, l0, v1, rv1, ev1, l1, v2, rv2, ev2, l2, v3, rv3, ev3, l3, l4⟩ := h'
 generalize rv3 = v4 at *
 obtain rfl := (show v3 = [.int .i64 x3] from l3)
 have ql4 := l4; obtain ⟨B4, d4, rfl, _⟩ := ql4
 have HH := Lib.hid (show ∀ (W : World) (b : Nat) (t : TypeId), Blk W b t us.toArray → W.rangeAt b 0 v0 ∧ W.rangeAt b 10 v1 ∧ W.rangeAt b 34 v2 ∧ W.cell? ⟨b, 35, none⟩ = some (.int .i64 x3) ∧ W.cell? ⟨b, 36, none⟩ = some (.slice B4 x4.length d4) from fun W b t hB => by
  have q := blk_all hB
  obtain ⟨p0, q⟩ := rsp ev0 (shWorld.R_len l0) q
  obtain ⟨p1, q⟩ := rsp ev1 (shBase.R_len l1) q
  obtain ⟨p2, q⟩ := rsp ev2 (shTree.R_len l2) q
  obtain ⟨p3, q⟩ := rsp ev3 rfl q
  exact ⟨p0, p1, p2, rng_one p3, rng_one q⟩)
 clear ev0 ev1 ev2 ev3
 have R0 := (((((((((((Stand.nil w).ad shWorld.R u0 X0 hhi k0 shWorld.R_keep).ad shBase.R u1 X1 hhi k1 shBase.R_keep).ad shTree.R u2 X2 hhi k2 shTree.R_keep).ad (Sh.row 167 shBatch).R [.slice A4 x4.length c4] x4 hhi k4 (Sh.row 167 shBatch).R_keep).ad shWorld.R v0 X0 hhi' l0 shWorld.R_keep).ad shBase.R v1 X1 hhi' l1 shBase.R_keep).ad shTree.R v2 X2 hhi' l2 shTree.R_keep).ad (Sh.row 167 shBatch).R [.slice B4 x4.length d4] x4 hhi' l4 (Sh.row 167 shBatch).R_keep).box 91 vs.toArray).box 91 us.toArray)
 rw [heap_alloc_size1] at R0
 have HR0 := Lib.hid R0
 have HZ0 := slH sizeIWorld k0
 have HY0 := slH sizeIWorld l0
 have HZ1 := slH sizeIBase k1
 have HY1 := slH sizeIBase l1
 have HZ2 := slH sizeITree k2
 have HY2 := slH sizeITree l2
 clear R0 k0 l0 k1 l1 k2 l2 k4 l4
 go_enter Tryz.func9, Tryz.ntmps9
 go_wp2_with (first | fail | (refine wlg w.heap.size 0 u0 (HG.out _ _ _ (HR0.out.get 1 rfl)).1 Tryz.underlying74 HZ0.out ?_) | (refine wlg (w.heap.size + 1) 0 v0 (HH.out _ _ _ (HR0.out.get 0 rfl)).1 Tryz.underlying74 HY0.out ?_))
 refine (eqWorld_o X0 u0 v0 lo hi lo' hi' _ (HR0.out.get 9 rfl) (HR0.out.get 5 rfl) (HR0.out.le 9 rfl) (HR0.out.le 5 rfl) ft0).mono ?_
 rintro e0 w0 ⟨rfl, hb0⟩
 have HR1 := Lib.hid (HR0.out.below hb0)
 clear hb0 HR0
 go_wp2_with (first | fail | (refine wlg w.heap.size 10 u1 (HG.out _ _ _ (HR1.out.get 1 rfl)).2.1 Tryz.underlying89 HZ1.out ?_) | (refine wlg (w.heap.size + 1) 10 v1 (HH.out _ _ _ (HR1.out.get 0 rfl)).2.1 Tryz.underlying89 HY1.out ?_))
 refine (eqBase_o X1 u1 v1 lo hi lo' hi' _ (HR1.out.get 8 rfl) (HR1.out.get 4 rfl) (HR1.out.le 8 rfl) (HR1.out.le 4 rfl) ft1).mono ?_
 rintro e1 w1 ⟨rfl, hb1⟩
 have HR2 := Lib.hid (HR1.out.below hb1)
 clear hb1 HR1
 go_wp2_with (first | fail | (refine wlg w.heap.size 34 u2 (HG.out _ _ _ (HR2.out.get 1 rfl)).2.2.1 Tryz.underlying66 HZ2.out ?_) | (refine wlg (w.heap.size + 1) 34 v2 (HH.out _ _ _ (HR2.out.get 0 rfl)).2.2.1 Tryz.underlying66 HY2.out ?_))
 refine (eqTree_o X2 u2 v2 lo hi lo' hi' _ (HR2.out.get 7 rfl) (HR2.out.get 3 rfl) (HR2.out.le 7 rfl) (HR2.out.le 3 rfl) ft2).mono ?_
 rintro e2 w2 ⟨rfl, hb2⟩
 have HR3 := Lib.hid (HR2.out.below hb2)
 clear hb2 HR2
 have f3 := (HG.out _ _ _ (HR3.out.get 1 rfl)).2.2.2.1
 have g3 := (HH.out _ _ _ (HR3.out.get 0 rfl)).2.2.2.1
 have f4 := (HG.out _ _ _ (HR3.out.get 1 rfl)).2.2.2.2
 have g4 := (HH.out _ _ _ (HR3.out.get 0 rfl)).2.2.2.2
 go_wp2_with fail
 refine (eqBatchS_f A4 B4 c4 d4 x4 lo hi lo' hi' _ (HR3.out.get 6 rfl) (HR3.out.get 2 rfl) (HR3.out.le 6 rfl) (HR3.out.le 2 rfl) ft4).mono ?_
 rintro e4 w4 ⟨rfl, hb4⟩
 have HR4 := Lib.hid (HR3.out.below hb4)
 clear f3 g3 f4 g4
 clear hb4 HR3
 go_wp2_with fail
 go_ret
 exact ⟨rfl, HR4.out.1⟩
end Go.Proofs.YtgnmollbnopigaaGreat
