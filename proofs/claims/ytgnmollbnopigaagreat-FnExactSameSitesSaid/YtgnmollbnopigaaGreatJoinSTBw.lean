/- Comparisons, both sides. Printed by gen_same2.py. -/
import Derived.Test.YtgnmollbnopigaaGreatJoinSTBv
import Derived.Test.YtgnmollbnopigaaGreatJoinSTBo
import Derived.Test.YtgnmollbnopigaaGreatJoinSTBg
import Derived.Test.YtgnmollbnopigaaGreatJoinSTAx
import Derived.Test.YtgnmollbnopigaaGreatRows
import Derived.JoinedOf
set_option maxHeartbeats 16000000
set_option maxRecDepth 100000
namespace Go.Proofs.YtgnmollbnopigaaGreat
open Go.RowKit
theorem sSameMachine_o : SmS shMachine 115 := by
 intro X Y vs us lo hi lo' hi' w h h' hhi hhi' hf hf'
 have HZ := slH sizeIMachine h; have HY := slH sizeIMachine h'
 have R0 := (((((Stand.nil w).ad shMachine.R vs X hhi h shMachine.R_keep).ad shMachine.R us Y hhi' h' shMachine.R_keep).box 154 vs.toArray).box 154 us.toArray)
 rw [heap_alloc_size1] at R0
 have HR0 := Lib.hid R0
 have HC := Lib.hid (fun W a b c d => sSameMachine0_o X Y vs us lo hi lo' hi' W a b c d hf hf')
 clear R0 h h' hf hf'
 generalize sameB X Y = ANS at *
 go_enter Tryz.func115, Tryz.ntmps115
 go_wp2_with (first | fail | (refine wlg w.heap.size 0 vs (blk_all (HR0.out.get 1 rfl)) Tryz.underlying154 HZ.out ?_) | (refine wlg (w.heap.size + 1) 0 us (blk_all (HR0.out.get 0 rfl)) Tryz.underlying154 HY.out ?_))
 refine (HC.out _ (HR0.out.get 3 rfl) (HR0.out.get 2 rfl) (HR0.out.le 3 rfl) (HR0.out.le 2 rfl)).mono ?_
 rintro e1 w1 ⟨rfl, hb1⟩
 have HR1 := Lib.hid (HR0.out.below hb1); clear hb1 HR0 HC
 go_wp2_with fail
 go_ret
 exact ⟨rfl, HR1.out.1⟩
end Go.Proofs.YtgnmollbnopigaaGreat
/- Comparisons, both sides. Printed by gen_same2.py. -/
namespace Go.Proofs.YtgnmollbnopigaaGreat
open Go.RowKit
theorem sameB_pair {α β : Type} (x y : α) (z : β) : sameB (x, z) (y, z) = sameB x y := by
 by_cases h : x = y
 ·rw [h, same_t rfl, same_t rfl]
 ·rw [same_f h, same_f (fun e => h (congrArg Prod.fst e))]
theorem heldSame (A B : Option Addr) (c d : Nat) (xs ys : List TyLock) (lo hi lo' hi' : Nat) (w : World) (h : (Sh.row 231 shLock).R w lo hi [.slice A xs.length c] xs) (h' : (Sh.row 231 shLock).R w lo' hi' [.slice B ys.length d] ys) (hhi : hi ≤ w.heap.size) (hhi' : hi' ≤ w.heap.size) (hf : (Sh.row 231 shLock).fit 4294967296 xs) (hf' : (Sh.row 231 shLock).fit 4294967296 ys) :
  Calls Tryz.prog 56 #[.agg #[.slice A xs.length c, .slice none 0 0], .agg #[.slice B ys.length d, .slice none 0 0]] w fun e w' => e = .returned (.bool (sameB xs ys)) ∧ Below w.heap.size w w' := by
 rw [← sameB_pair xs ys ([] : List TyAsk)]
 exact sSameLocks_o (xs, []) (ys, []) [.slice A xs.length c, .slice none 0 0] [.slice B ys.length d, .slice none 0 0] lo hi lo' hi' w ⟨_, _, rfl, h, ⟨none, 0, rfl, fun hj => absurd hj (by simp)⟩⟩ ⟨_, _, rfl, h', ⟨none, 0, rfl, fun hj => absurd hj (by simp)⟩⟩ hhi hhi' ⟨hf, ⟨by simp, by simp⟩⟩ ⟨hf', ⟨by simp, by simp⟩⟩
theorem sSameJob_o : SmS shJob 57 := by
 intro X Y vs us lo hi lo' hi' w h h' hhi hhi' hf hf'
 obtain ⟨ANS, hANS⟩ : ∃ b, b = sameB X Y := ⟨_, rfl⟩
 rw [← hANS]
 obtain ⟨x0, X1, X2, X3, x4, x5, x6, x7, x8, x9⟩ := X
 obtain ⟨y0, Y1, Y2, Y3, y4, y5, y6, y7, y8, y9⟩ := Y
 obtain ⟨ft0, ft1, ft2, ft3, ft4, ft5, ft6, ft7, ft8, ft9⟩ := hf
 obtain ⟨gt0, gt1, gt2, gt3, gt4, gt5, gt6, gt7, gt8, gt9⟩ := hf'
 have HANS := Lib.hid hANS; clear hANS
 obtain ⟨u0, ru0, eu0, k0, u1, ru1, eu1, k1, u2, ru2, eu2, k2, u3, ru3, eu3, k3, u4, ru4, eu4, k4, u5, ru5, eu5, k5, u6, ru6, eu6, k6, u7, ru7, eu7, k7, u8, ru8, eu8, k8, k9⟩ := h
 generalize ru8 = u9 at *
 obtain rfl := (show u0 = [.int .i64 x0] from k0)
 obtain rfl := (show u4 = [.string x4] from k4)
 have qk5 := k5; obtain ⟨A5, c5, rfl, _⟩ := qk5
 have qk6 := k6; obtain ⟨A6, c6, rfl, _⟩ := qk6
 obtain rfl := (show u7 = [.int .i64 x7] from k7)
 have qk8 := k8; obtain ⟨A8, c8, rfl, _⟩ := qk8
 obtain rfl := (show u9 = [.string x9] from k9)
 have HG := Lib.hid (show ∀ (W : World) (b : Nat) (t : TypeId), Blk W b t vs.toArray → W.cell? ⟨b, 0, none⟩ = some (.int .i64 x0) ∧ W.rangeAt b 1 u1 ∧ W.rangeAt b 22 u2 ∧ W.rangeAt b 25 u3 ∧ W.cell? ⟨b, 46, none⟩ = some (.string x4) ∧ W.cell? ⟨b, 47, none⟩ = some (.slice A5 x5.length c5) ∧ W.cell? ⟨b, 48, none⟩ = some (.slice A6 x6.length c6) ∧ W.cell? ⟨b, 49, none⟩ = some (.int .i64 x7) ∧ W.cell? ⟨b, 50, none⟩ = some (.slice A8 x8.length c8) ∧ W.cell? ⟨b, 51, none⟩ = some (.string x9) from fun W b t hB => by
  have q := blk_all hB
  obtain ⟨p0, q⟩ := rsp eu0 rfl q
  obtain ⟨p1, q⟩ := rsp eu1 (shMachine.R_len k1) q
  obtain ⟨p2, q⟩ := rsp eu2 (shTrans.R_len k2) q
  obtain ⟨p3, q⟩ := rsp eu3 (shMachine.R_len k3) q
  obtain ⟨p4, q⟩ := rsp eu4 rfl q
  obtain ⟨p5, q⟩ := rsp eu5 rfl q
  obtain ⟨p6, q⟩ := rsp eu6 rfl q
  obtain ⟨p7, q⟩ := rsp eu7 rfl q
  obtain ⟨p8, q⟩ := rsp eu8 rfl q
  exact ⟨rng_one p0, p1, p2, p3, rng_one p4, rng_one p5, rng_one p6, rng_one p7, rng_one p8, rng_one q⟩)
 clear eu0 eu1 eu2 eu3 eu4 eu5 eu6 eu7 eu8
 obtain ⟨v0, rv0, ev0, l0, v1, rv1, ev1, l1, v2, rv2, ev2, l2, v3, rv3, ev3, l3, v4, rv4, ev4, l4, v5, rv5, ev5, l5, v6, rv6, ev6, l6, v7, rv7, ev7, l7, v8, rv8, ev8, l8, l9⟩ := h'
 generalize rv8 = v9 at *
 obtain rfl := (show v0 = [.int .i64 y0] from l0)
 obtain rfl := (show v4 = [.string y4] from l4)
 have ql5 := l5; obtain ⟨B5, d5, rfl, _⟩ := ql5
 have ql6 := l6; obtain ⟨B6, d6, rfl, _⟩ := ql6
 obtain rfl := (show v7 = [.int .i64 y7] from l7)
 have ql8 := l8; obtain ⟨B8, d8, rfl, _⟩ := ql8
 obtain rfl := (show v9 = [.string y9] from l9)
 have HH := Lib.hid (show ∀ (W : World) (b : Nat) (t : TypeId), Blk W b t us.toArray → W.cell? ⟨b, 0, none⟩ = some (.int .i64 y0) ∧ W.rangeAt b 1 v1 ∧ W.rangeAt b 22 v2 ∧ W.rangeAt b 25 v3 ∧ W.cell? ⟨b, 46, none⟩ = some (.string y4) ∧ W.cell? ⟨b, 47, none⟩ = some (.slice B5 y5.length d5) ∧ W.cell? ⟨b, 48, none⟩ = some (.slice B6 y6.length d6) ∧ W.cell? ⟨b, 49, none⟩ = some (.int .i64 y7) ∧ W.cell? ⟨b, 50, none⟩ = some (.slice B8 y8.length d8) ∧ W.cell? ⟨b, 51, none⟩ = some (.string y9) from fun W b t hB => by
  have q := blk_all hB
  obtain ⟨p0, q⟩ := rsp ev0 rfl q
  obtain ⟨p1, q⟩ := rsp ev1 (shMachine.R_len l1) q
  obtain ⟨p2, q⟩ := rsp ev2 (shTrans.R_len l2) q
  obtain ⟨p3, q⟩ := rsp ev3 (shMachine.R_len l3) q
  obtain ⟨p4, q⟩ := rsp ev4 rfl q
  obtain ⟨p5, q⟩ := rsp ev5 rfl q
  obtain ⟨p6, q⟩ := rsp ev6 rfl q
  obtain ⟨p7, q⟩ := rsp ev7 rfl q
  obtain ⟨p8, q⟩ := rsp ev8 rfl q
  exact ⟨rng_one p0, p1, p2, p3, rng_one p4, rng_one p5, rng_one p6, rng_one p7, rng_one p8, rng_one q⟩)
 clear ev0 ev1 ev2 ev3 ev4 ev5 ev6 ev7 ev8
 have R0 := (((((((((((((((Stand.nil w).ad shMachine.R u1 X1 hhi k1 shMachine.R_keep).ad shTrans.R u2 X2 hhi k2 shTrans.R_keep).ad shMachine.R u3 X3 hhi k3 shMachine.R_keep).ad (Sh.row 9 shS).R [.slice A5 x5.length c5] x5 hhi k5 (Sh.row 9 shS).R_keep).ad (Sh.row 231 shLock).R [.slice A6 x6.length c6] x6 hhi k6 (Sh.row 231 shLock).R_keep).ad (Sh.row 9 shS).R [.slice A8 x8.length c8] x8 hhi k8 (Sh.row 9 shS).R_keep).ad shMachine.R v1 Y1 hhi' l1 shMachine.R_keep).ad shTrans.R v2 Y2 hhi' l2 shTrans.R_keep).ad shMachine.R v3 Y3 hhi' l3 shMachine.R_keep).ad (Sh.row 9 shS).R [.slice B5 y5.length d5] y5 hhi' l5 (Sh.row 9 shS).R_keep).ad (Sh.row 231 shLock).R [.slice B6 y6.length d6] y6 hhi' l6 (Sh.row 231 shLock).R_keep).ad (Sh.row 9 shS).R [.slice B8 y8.length d8] y8 hhi' l8 (Sh.row 9 shS).R_keep).box 159 vs.toArray).box 159 us.toArray)
 rw [heap_alloc_size1] at R0
 have HR0 := Lib.hid R0
 have HZ1 := slH sizeIMachine k1
 have HY1 := slH sizeIMachine l1
 have HZ2 := slH sizeITrans k2
 have HY2 := slH sizeITrans l2
 have HZ3 := slH sizeIMachine k3
 have HY3 := slH sizeIMachine l3
 clear R0 k1 l1 k2 l2 k3 l3 k5 l5 k6 l6 k8 l8
 go_enter Tryz.func57, Tryz.ntmps57
 (try dsimp only [List.append])
 have f0 := (HG.out _ _ _ (HR0.out.get 1 rfl)).1
 have g0 := (HH.out _ _ _ (HR0.out.get 0 rfl)).1
 by_cases hne : x0 = y0
 rotate_left
 ·have HF := nf (fun X : TyJob => X.1) HANS hne
  have hq : (x0 == y0) = false := beq_eq_false_iff_ne.2 hne
  clear hne
  go_wp2_with fail
  go_ret
  exact ⟨by rw [HF.out]; rfl, HR0.out.1⟩
 subst hne
 go_wp2_with (first | fail | (refine wlg w.heap.size 1 u1 (HG.out _ _ _ (HR0.out.get 1 rfl)).2.1 Tryz.underlying154 HZ1.out ?_) | (refine wlg (w.heap.size + 1) 1 v1 (HH.out _ _ _ (HR0.out.get 0 rfl)).2.1 Tryz.underlying154 HY1.out ?_))
 refine (sSameMachine_o X1 Y1 u1 v1 lo hi lo' hi' _ (HR0.out.get 13 rfl) (HR0.out.get 7 rfl) (HR0.out.le 13 rfl) (HR0.out.le 7 rfl) ft1 gt1).mono ?_
 rintro e1 w1 ⟨rfl, hb1⟩
 have HR1 := Lib.hid (HR0.out.below hb1)
 clear hb1 HR0  f0 g0
 by_cases hne : X1 = Y1
 rotate_left
 ·rw [same_f hne]
  have HF := nf (fun X : TyJob => X.2.1) HANS hne
  clear hne
  go_wp2_with fail
  go_ret
  exact ⟨by rw [HF.out]; rfl, HR1.out.1⟩
 rw [same_t hne]
 subst hne
 go_wp2_with (first | fail | (refine wlg w.heap.size 22 u2 (HG.out _ _ _ (HR1.out.get 1 rfl)).2.2.1 Tryz.underlying157 HZ2.out ?_) | (refine wlg (w.heap.size + 1) 22 v2 (HH.out _ _ _ (HR1.out.get 0 rfl)).2.2.1 Tryz.underlying157 HY2.out ?_))
 refine (sSameTrans_o X2 Y2 u2 v2 lo hi lo' hi' _ (HR1.out.get 12 rfl) (HR1.out.get 6 rfl) (HR1.out.le 12 rfl) (HR1.out.le 6 rfl) ft2 gt2).mono ?_
 rintro e2 w2 ⟨rfl, hb2⟩
 have HR2 := Lib.hid (HR1.out.below hb2)
 clear hb2 HR1  
 by_cases hne : X2 = Y2
 rotate_left
 ·rw [same_f hne]
  have HF := nf (fun X : TyJob => X.2.2.1) HANS hne
  clear hne
  go_wp2_with fail
  go_ret
  exact ⟨by rw [HF.out]; rfl, HR2.out.1⟩
 rw [same_t hne]
 subst hne
 go_wp2_with (first | fail | (refine wlg w.heap.size 25 u3 (HG.out _ _ _ (HR2.out.get 1 rfl)).2.2.2.1 Tryz.underlying154 HZ3.out ?_) | (refine wlg (w.heap.size + 1) 25 v3 (HH.out _ _ _ (HR2.out.get 0 rfl)).2.2.2.1 Tryz.underlying154 HY3.out ?_))
 refine (sSameMachine_o X3 Y3 u3 v3 lo hi lo' hi' _ (HR2.out.get 11 rfl) (HR2.out.get 5 rfl) (HR2.out.le 11 rfl) (HR2.out.le 5 rfl) ft3 gt3).mono ?_
 rintro e3 w3 ⟨rfl, hb3⟩
 have HR3 := Lib.hid (HR2.out.below hb3)
 clear hb3 HR2  
 by_cases hne : X3 = Y3
 rotate_left
 ·rw [same_f hne]
  have HF := nf (fun X : TyJob => X.2.2.2.1) HANS hne
  clear hne
  go_wp2_with fail
  go_ret
  exact ⟨by rw [HF.out]; rfl, HR3.out.1⟩
 rw [same_t hne]
 subst hne
 have f4 := (HG.out _ _ _ (HR3.out.get 1 rfl)).2.2.2.2.1
 have g4 := (HH.out _ _ _ (HR3.out.get 0 rfl)).2.2.2.2.1
 have f5 := (HG.out _ _ _ (HR3.out.get 1 rfl)).2.2.2.2.2.1
 have g5 := (HH.out _ _ _ (HR3.out.get 0 rfl)).2.2.2.2.2.1
 by_cases hne : x4 = y4
 rotate_left
 ·have HF := nf (fun X : TyJob => X.2.2.2.2.1) HANS hne
  have hq : (x4.toList == y4.toList) = false := str_ne hne
  clear hne
  go_wp2_with fail
  go_ret
  exact ⟨by rw [HF.out]; rfl, HR3.out.1⟩
 subst hne
 go_wp2_with fail
 refine (l24Texts_r A5 B5 c5 d5 x5 y5 lo hi lo' hi' _ (HR3.out.get 10 rfl) (HR3.out.get 4 rfl) (HR3.out.le 10 rfl) (HR3.out.le 4 rfl) ft5.1 gt5.1).mono ?_
 rintro e5 w5 ⟨rfl, hb5⟩
 have HR4 := Lib.hid (HR3.out.below hb5)
 clear hb5 HR3  f4 g4 f5 g5
 by_cases hne : x5 = y5
 rotate_left
 ·rw [same_f hne]
  have HF := nf (fun X : TyJob => X.2.2.2.2.2.1) HANS hne
  clear hne
  go_wp2_with fail
  go_ret
  exact ⟨by rw [HF.out]; rfl, HR4.out.1⟩
 rw [same_t hne]
 subst hne
 have f6 := (HG.out _ _ _ (HR4.out.get 1 rfl)).2.2.2.2.2.2.1
 have g6 := (HH.out _ _ _ (HR4.out.get 0 rfl)).2.2.2.2.2.2.1
 go_wp2_with fail
 refine (heldSame A6 B6 c6 d6 x6 y6 lo hi lo' hi' _ (HR4.out.get 9 rfl) (HR4.out.get 3 rfl) (HR4.out.le 9 rfl) (HR4.out.le 3 rfl) ft6 gt6).mono ?_
 rintro e6 w6 ⟨rfl, hb6⟩
 have HR5 := Lib.hid (HR4.out.below hb6)
 clear hb6 HR4  f6 g6
 by_cases hne : x6 = y6
 rotate_left
 ·rw [same_f hne]
  have HF := nf (fun X : TyJob => X.2.2.2.2.2.2.1) HANS hne
  clear hne
  go_wp2_with fail
  go_ret
  exact ⟨by rw [HF.out]; rfl, HR5.out.1⟩
 rw [same_t hne]
 subst hne
 have f7 := (HG.out _ _ _ (HR5.out.get 1 rfl)).2.2.2.2.2.2.2.1
 have g7 := (HH.out _ _ _ (HR5.out.get 0 rfl)).2.2.2.2.2.2.2.1
 have f8 := (HG.out _ _ _ (HR5.out.get 1 rfl)).2.2.2.2.2.2.2.2.1
 have g8 := (HH.out _ _ _ (HR5.out.get 0 rfl)).2.2.2.2.2.2.2.2.1
 by_cases hne : x7 = y7
 rotate_left
 ·have HF := nf (fun X : TyJob => X.2.2.2.2.2.2.2.1) HANS hne
  have hq : (x7 == y7) = false := beq_eq_false_iff_ne.2 hne
  clear hne
  go_wp2_with fail
  go_ret
  exact ⟨by rw [HF.out]; rfl, HR5.out.1⟩
 subst hne
 go_wp2_with fail
 refine (l24Texts_r A8 B8 c8 d8 x8 y8 lo hi lo' hi' _ (HR5.out.get 8 rfl) (HR5.out.get 2 rfl) (HR5.out.le 8 rfl) (HR5.out.le 2 rfl) ft8.1 gt8.1).mono ?_
 rintro e8 w8 ⟨rfl, hb8⟩
 have HR6 := Lib.hid (HR5.out.below hb8)
 clear hb8 HR5  f7 g7 f8 g8
 by_cases hne : x8 = y8
 rotate_left
 ·rw [same_f hne]
  have HF := nf (fun X : TyJob => X.2.2.2.2.2.2.2.2.1) HANS hne
  clear hne
  go_wp2_with fail
  go_ret
  exact ⟨by rw [HF.out]; rfl, HR6.out.1⟩
 rw [same_t hne]
 subst hne
 have f9 := (HG.out _ _ _ (HR6.out.get 1 rfl)).2.2.2.2.2.2.2.2.2
 have g9 := (HH.out _ _ _ (HR6.out.get 0 rfl)).2.2.2.2.2.2.2.2.2
 by_cases hne : x9 = y9
 rotate_left
 ·have HF := nf (fun X : TyJob => X.2.2.2.2.2.2.2.2.2) HANS hne
  have hq : (x9.toList == y9.toList) = false := str_ne hne
  clear hne
  go_wp2_with fail
  go_ret
  exact ⟨by rw [HF.out]; rfl, HR6.out.1⟩
 subst hne
 have HT := Lib.hid (HANS.out.trans (same_t rfl))
 go_wp2_with fail
 go_ret
 exact ⟨by rw [HT.out]; rfl, HR6.out.1⟩
end Go.Proofs.YtgnmollbnopigaaGreat
/- Job: walks field by field (toS). Printed by gen_big.py. -/
namespace Go.Proofs.YtgnmollbnopigaaGreat
open Go.RowKit
theorem infoJob : (Tryz.prog.info? 159).map (fun i => (i.zero, i.size, i.bytes)) = some (some (.agg zz15), 52, 800) := by kernel_rfl
def zeroJob : Array Value := zz15
theorem make_JobS (n : Nat) (hn : n ≤ 1048576) (w : World) :
  (Instr.makeSlice 71 (.int .i64 (n : Int)) (.int .i64 (n : Int))).run Tryz.prog w = .ok (.slice (some ⟨w.heap.size, 0, none⟩) n n) (w.alloc (.cells (madeCells zeroJob (n * 52)) 159)) := by
 obtain ⟨i0, hi0, hz0, hz1, hz2⟩ := info_parts infoJob
 have hb : (i0.bytes : Int) * (n : Int) ≤ 281474976710656 := by
  rw [hz2]; omega
 have hr := run_make (P := Tryz.prog) w 71 159 i0 _ Tryz.underlying71 hi0 hz0 .i64 .i64 n n (by omega) (by omega) hb (by omega)
 simp only [Int.toNat_natCast] at hr
 rw [hr, hz1]
 rfl
theorem toJobS_f (A : Option Addr) (c : Nat) (xs : List TyJob) (lo hi : Nat) (w : World) (h : (Sh.row 159 shJob).R w lo hi [.slice A xs.length c] xs) (hhi : hi ≤ w.heap.size) (hf : (Sh.row 159 shJob).fit 1048576 xs) :
  Calls Tryz.prog 66 #[.slice A xs.length c] w fun e w' => ∃ (B : Option Addr) (d : Nat), e = .returned (.slice B xs.length d) ∧ (Sh.row 159 shJob).R w' w.heap.size w'.heap.size [.slice B xs.length d] xs ∧ Below w.heap.size w w' := by
 have hn := hf.1
 have hmk := fun W => make_JobS xs.length hn W
 have H0 := Lib.hid (Blk.new w 159 (madeCells zeroJob (xs.length * 52)))
 have HB0 := Lib.hid ((Below.refl w.heap.size w).alloc (Nat.le_refl _) (.cells (madeCells zeroJob (xs.length * 52)) 159))
 have HA := Lib.hid h; have HF := Lib.hid hf.2
 clear h hf
 go_enter Tryz.func66, Tryz.ntmps66
 go_wp2_with fail
 go_loopw [4] (fun i wr => ∃ (k : Nat), k ≤ xs.length ∧ i = .int .i64 k ∧ FillR shJob wr w.heap.size xs k ∧ Below w.heap.size w wr) (fun i _ => xs.length - (intOf i).toNat)
 case atStart => exact ⟨0, Nat.zero_le _, rfl, FillR.start H0.out (size_madeCells _ _), HB0.out⟩
 case round =>
  clear hmk
  obtain ⟨k, hk, rfl, hfl, hb⟩ := hrel
  by_cases hlt : k < xs.length
  ·obtain ⟨b, off, rfl, hb1, hb2, us, hc, hX⟩ := row_at ((Sh.row 159 shJob).R_below HA.out hb hhi) hlt
   have HX := Lib.hid (HF.out _ (getD_in (d := shJob.d) hlt))
   have HN := Lib.hid (fun (W : World) (vs : List Value) (h : FillR shJob W w.heap.size xs k) (lo : Nat) (hlo : w.heap.size + 1 ≤ lo) => h.add (us := vs) hlo hlt)
   generalize xs.getD k shJob.d = X at *
   have HB := Lib.hid hb; have HR := Lib.hid hX; have HFL := Lib.hid hfl
   have HC := Lib.hid (rng_of hc)
   have HZ := slH sizeLJob hX
   have hsz := hb.size; have hgl := hfl.lt
   clear hb hX hc hfl
   go_wp2_with (first | fail | (refine wlg b (off + k * 52) us HC.out Tryz.underlying216 HZ.out ?_))
   refine (toJob_o X us lo hi _ HR.out (by omega) HX.out).mono ?_
   rintro e5 w5 ⟨us5, rfl, ho5, hb5⟩
   have HB5 := Lib.hid (HB.out.trans (hb5.mono hsz))
   have HF5 := Lib.hid (HFL.out.below hb5)
   have hz5 := hb5.size
   have hl5 := shJob.R_len ho5
   have HTH := Lib.hid (HF5.out.room hlt (n := us5.toArray.size) (by rw [List.size_toArray, hl5]))
   have HSZ := saH sizeIJob ho5
   have HON := Lib.hid (all_oneCell_toArray (shJob.R_one ho5))
   have HADD := Lib.hid (HN.out w5 us5 HF5.out wr.heap.size (by omega) ho5)
   clear hb5 HC ho5 HFL hl5
   go_wp2_with (first | fail | (refine wpList_store_mid rfl _ _ _ rfl w.heap.size (k * 52) us5.toArray rfl rfl HTH.out HSZ.out HON.out ?_))
   go_roundw
   case rel => exact ⟨k + 1, by omega, by go_num, HADD.out, HB5.out.trans ((setCells_out w.heap.size us5 (k * 52) w5).1.below1 (Nat.le_refl _) (by omega))⟩
   case measure => simp [intOf]; omega
  ·obtain rfl : k = xs.length := by omega
   have HB := Lib.hid hb; have HFD := Lib.hid (hfl.done (t := 159) (Nat.le_refl _)); clear hb hfl
   go_wp2_with fail
   go_ret
   exact ⟨_, _, rfl, HFD.out, HB.out⟩
end Go.Proofs.YtgnmollbnopigaaGreat
/- FnExactSameSites: the closed facts of its row, one by one (all at once they outgrow the kernel's memory). Printed by gen_proofo.py. -/
namespace Go.Proofs.YtgnmollbnopigaaGreat
set_option maxRecDepth 100000
theorem sameSites_k0 : (Rows.fnExactSameSitesRow.wf (OpenSpec.ofChange Rows.fnExactSameSitesSpec)) = true := by kernel_rfl
theorem sameSites_k1 : (laidOutB Tryz.prog) = true := by kernel_rfl
theorem sameSites_k2 : (mapsRowed Tryz.prog) = true := by kernel_rfl
theorem sameSites_k3 : ((Tryz.f4.params.all (Tryz.prog.readableRec ·))) = true := by kernel_rfl
theorem sameSites_k4 : (namedTie Tryz.prog Rows.fnExactSameSitesRow.named Rows.fnExactSameSitesSpec.vars) = true := by kernel_rfl
theorem sameSites_k5 : ((Rows.fnExactSameSitesRow.stops == [])) = true := by kernel_rfl
theorem sameSites_k6 : ((Tryz.prog.stops == [])) = true := by kernel_rfl
theorem sameSites_k7 : ((Rows.fnExactSameSitesRow.knobs == [])) = true := by kernel_rfl
theorem sameSites_k8 : ((Tryz.prog.stopKnobs == [])) = true := by kernel_rfl
theorem sameSites_k9 : ((Rows.fnExactSameSitesRow.inPlace == Tryz.prog.inPlace 4)) = true := by kernel_rfl
theorem sameSites_k10 : ((Rows.fnExactSameSitesRow.unfollowed == Tryz.prog.unfollowed 4)) = true := by kernel_rfl
theorem sameSites_k11 : ((Rows.fnExactSameSitesRow.recurses == Tryz.prog.recurses 4)) = true := by kernel_rfl
theorem sameSites_k12 : ((Rows.fnExactSameSitesRow.named == Tryz.prog.varsNamed 4)) = true := by kernel_rfl
theorem sameSites_k13 : ((Rows.fnExactSameSitesRow.maps == (Tryz.f4.params.toList ++ Rows.fnExactSameSitesSpec.plain.varTypes Tryz.prog).any (Tryz.prog.mapsRec ·))) = true := by kernel_rfl
theorem sameSites_k14 : ((Rows.fnExactSameSitesRow.ifaces == (Tryz.f4.params.toList ++ Rows.fnExactSameSitesSpec.plain.varTypes Tryz.prog).any (Tryz.prog.ifacesRec ·))) = true := by kernel_rfl
theorem sameSites_k15 : ((Rows.fnExactSameSitesRow.mapsOut == Tryz.prog.mapsAmong Tryz.f4.resultTypes.toList)) = true := by kernel_rfl
theorem sameSites_k16 : ((Rows.fnExactSameSitesRow.loops == (Tryz.f4.params.toList ++ Rows.fnExactSameSitesSpec.plain.varTypes Tryz.prog).any (Tryz.prog.loopsFrom ·))) = true := by kernel_rfl
theorem sameSites_k17 : ((Rows.fnExactSameSitesRow.wideKeys == (Tryz.f4.params.toList ++ Rows.fnExactSameSitesSpec.plain.varTypes Tryz.prog ++ Tryz.f4.resultTypes.toList).any (Tryz.prog.wideKeysFrom ·))) = true := by kernel_rfl
theorem sameSites_k18 : (Rows.fnExactSameSitesSpec.vars.all (Tryz.prog.varReadable ·)) = true := by kernel_rfl
theorem sameSites_k19 : (Tryz.f4.resultTypes.all (fun t => Tryz.prog.readableRec t && decide (t < Tryz.prog.types.size))) = true := by kernel_rfl
theorem sameSites_k20 : ((Rows.fnExactSameSitesRow.ifacesOut == Tryz.f4.resultTypes.toList.any (Tryz.prog.ifacesRec ·))) = true := by kernel_rfl
theorem sameSites_k21 : ((Rows.fnExactSameSitesRow.loopsOut == Tryz.f4.resultTypes.toList.any (Tryz.prog.loopsFrom ·))) = true := by kernel_rfl
theorem sameSites_k22 : ((Rows.fnExactSameSitesRow.plainKeys == Tryz.prog.plainKeys)) = true := by kernel_rfl
theorem sameSites_k23 : (Rows.fnExactSameSitesRow.shortTexts.isNone) = true := by kernel_rfl
theorem sameSites_k24 : (Tryz.prog.stopsHeard) = true := by kernel_rfl
theorem sameSites_k25 : (Tryz.prog.mayEnter) = true := by kernel_rfl
theorem sameSites_k26 : ((Rows.fnExactSameSitesRow.lifted == Tryz.prog.liftsFinal)) = true := by kernel_rfl
theorem sameSites_k27 : ((Tryz.prog.make == some Rows.fnExactSameSitesRow.make)) = true := by kernel_rfl
theorem sameSites_k28 (K : List (Option IntKind)) : (Rows.fnExactSameSitesRow.kinds == (if Rows.fnExactSameSitesRow.domain.isEmpty then [] else K)) = true := rfl
theorem sameSites_k29 : ((Rows.fnExactSameSitesRow.pinned == Rows.fnExactSameSitesRow.pinnedBy)) = true := by kernel_rfl
theorem sameSites_k30 : ((Rows.fnExactSameSitesRow.veiled == (Tryz.f4.params.toList ++ Rows.fnExactSameSitesSpec.plain.varTypes Tryz.prog ++ Tryz.f4.resultTypes.toList).any (Tryz.prog.veiledRec ·))) = true := by kernel_rfl
theorem sameSites_k31 : (Rows.fnExactSameSitesRow.veiledFits Tryz.prog Tryz.f4.params.toList (Tryz.f4.params.toList ++ Rows.fnExactSameSitesSpec.plain.varTypes Tryz.prog ++ Tryz.f4.resultTypes.toList)) = true := by kernel_rfl
theorem sameSites_facts : joinedFacts Tryz.prog 4 Tryz.f4 Rows.fnExactSameSitesSpec Rows.fnExactSameSitesRow = true := by
 unfold joinedFacts
 rw [sameSites_k0, sameSites_k1, sameSites_k2, sameSites_k3, sameSites_k4, sameSites_k5, sameSites_k6, sameSites_k7, sameSites_k8, sameSites_k9, sameSites_k10, sameSites_k11, sameSites_k12, sameSites_k13, sameSites_k14, sameSites_k15, sameSites_k16, sameSites_k17, sameSites_k18, sameSites_k19, sameSites_k20, sameSites_k21, sameSites_k22, sameSites_k23, sameSites_k24, sameSites_k25, sameSites_k26, sameSites_k27, sameSites_k28, sameSites_k29, sameSites_k30, sameSites_k31]
 rfl
theorem sameSites_named : Tryz.prog.funcNamed Rows.fnExactSameSitesRow.func = some 4 := by kernel_rfl
end Go.Proofs.YtgnmollbnopigaaGreat
