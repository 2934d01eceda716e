/- Comparisons, both sides. Printed by gen_same2.py. -/
import Derived.Test.YtgnmollbnopigaaGreatJoinSSAw
import Derived.Test.YtgnmollbnopigaaGreatJoinSSBd
set_option maxHeartbeats 16000000
set_option maxRecDepth 100000
namespace Go.Proofs.YtgnmollbnopigaaGreat
open Go.RowKit
theorem Stand.veilQ {w0 w : World} {Fs : Facts} (h : Stand w0 Fs w) : ∃ Q : World → Prop, Q w ∧ (∀ W W', Q W → Below W.heap.size W W' → Q W') ∧ (∀ W, Q W → Stand w0 Fs W) :=
 ⟨fun W => Stand w0 Fs W, h, fun _ _ q hb => q.below hb, fun _ q => q⟩
theorem sSameTree_o : SmS shTree 21 := by
 intro X Y vs us lo hi lo' hi' w h h' hhi hhi' hf hf'
 obtain ⟨ANS, hANS⟩ : ∃ b, b = sameB X Y := ⟨_, rfl⟩
 rw [← hANS]
 have HANS := Lib.hid hANS; clear hANS
 have ft0 := hf; have gt0 := hf'
 have k0 := h; obtain ⟨A0, c0, rfl, _⟩ := h
 have l0 := h'; obtain ⟨B0, d0, rfl, _⟩ := h'
 have HG := Lib.hid (show ∀ (W : World) (b : Nat) (t : TypeId), Blk W b t ([.slice A0 X.length c0] : List Value).toArray → W.cell? ⟨b, 0, none⟩ = some (.slice A0 X.length c0) from fun W b t hB => rng_one (blk_all hB))
 have HH := Lib.hid (show ∀ (W : World) (b : Nat) (t : TypeId), Blk W b t ([.slice B0 Y.length d0] : List Value).toArray → W.cell? ⟨b, 0, none⟩ = some (.slice B0 Y.length d0) from fun W b t hB => rng_one (blk_all hB))
 have R0 := (((((Stand.nil w).ad (Sh.row 165 shNode).R [.slice A0 X.length c0] X hhi k0 (Sh.row 165 shNode).R_keep).ad (Sh.row 165 shNode).R [.slice B0 Y.length d0] Y hhi' l0 (Sh.row 165 shNode).R_keep).box 66 ([.slice A0 X.length c0] : List Value).toArray).box 66 ([.slice B0 Y.length d0] : List Value).toArray)
 rw [heap_alloc_size1] at R0
 have HR0 := Lib.hid R0
 clear R0 k0 l0
 go_enter Tryz.func21, Tryz.ntmps21
 have f0 := (HG.out _ _ _ (HR0.out.get 1 rfl))
 have g0 := (HH.out _ _ _ (HR0.out.get 0 rfl))
 by_cases hne : X.length = Y.length
 rotate_left
 ·have HF := nf (fun X : TyTree => (X).length) HANS hne
  have n1 : ((X.length : Int) == (Y.length : Int)) = false := by rw [beq_eq_false_iff_ne]; omega
  have n2 : ((X.length : Int) != (Y.length : Int)) = true := by rw [bne_iff_ne]; omega
  clear hne
  go_wp2_with fail
  go_ret
  exact ⟨by rw [HF.out]; rfl, HR0.out.1⟩
 have HL0 := Lib.hid hne
 have m0 : ((X.length : Int) == (Y.length : Int)) = true := by rw [beq_iff_eq]; omega
 have n0 : ((X.length : Int) != (Y.length : Int)) = false := by rw [hne]; simp
 clear hne
 go_wp2_with fail
 obtain ⟨Q, q0, qs, qg⟩ := HR0.out.veilQ
 have HQ0 := Lib.hid q0; have QS := Lib.hid qs; have QG := Lib.hid qg
 clear q0 qs qg HR0 f0 g0 m0 n0
 have hn0 := ft0.1
 go_loopw [5] (fun i wr => ∃ k : Nat, k ≤ X.length ∧ i = .int .i64 k ∧ Hid (X.take k = Y.take k) ∧ Hid (Q wr)) (fun i _ => X.length - (intOf i).toNat)
 case atStart => exact ⟨0, Nat.zero_le _, rfl, Lib.hid rfl, HQ0⟩
 case round =>
  obtain ⟨k, hk, rfl, htk, hq0⟩ := hrel
  have HRr := Lib.hid (QG.out _ hq0.out)
  have f0 := (HG.out _ _ _ (HRr.out.get 1 rfl))
  have g0 := (HH.out _ _ _ (HRr.out.get 0 rfl))
  by_cases hlt : k < X.length
  ·have hly : k < Y.length := by have := HL0.out; omega
   obtain ⟨b, off, rfl, hb1, hb2, us, hc, hX⟩ := row_at (HRr.out.get 3 rfl) hlt
   obtain ⟨b', off', rfl, hb1', hb2', us', hc', hX'⟩ := row_at (HRr.out.get 2 rfl) hly
   have HST := Lib.hid (fun he => take_step (d := shNode.d) htk.out hlt HL0.out he)
   have HNE := Lib.hid (fun he => ne_at (xs := X) (ys := Y) (d := shNode.d) (k := k) he)
   have HX := Lib.hid (ft0.2 _ (getD_in (d := shNode.d) hlt)); have HX' := Lib.hid (gt0.2 _ (getD_in (d := shNode.d) hly))
   generalize X.getD k shNode.d = EX at *
   generalize Y.getD k shNode.d = EY at *
   have HR := Lib.hid (show shNode.R wr.drew lo hi us EX from shNode.R_below hX (below_drewN' wr 1) (HRr.out.le 3 rfl)); have HR' := Lib.hid (show shNode.R wr.drew lo' hi' us' EY from shNode.R_below hX' (below_drewN' wr 1) (HRr.out.le 2 rfl))
   have HC := Lib.hid (show wr.drew.rangeAt b (off + k * 3) us from rng_of hc); have HC' := Lib.hid (show wr.drew.rangeAt b' (off' + k * 3) us' from rng_of hc')
   have HZ := slH sizeINode hX; have HZ' := slH sizeINode hX'
   have HQd := Lib.hid (QS.out _ wr.drew hq0.out (below_drewN' wr 1))
   have HRd := Lib.hid (QG.out _ HQd.out)
   have HF1 := Lib.hid (show wr.drew.cell? _ = _ from (HG.out _ _ _ (HRd.out.get 1 rfl))); have HF2 := Lib.hid (show wr.drew.cell? _ = _ from (HH.out _ _ _ (HRd.out.get 0 rfl)))
   clear hX hX' hc hc' htk HRr
   go_upto_region 6 with fail
   clear f0 g0
   refine AnyT.region (fun _ => false) (fun W => (W.cell? ⟨w.heap.size, 0, none⟩ = some (.slice (some ⟨b, off, none⟩) X.length c0) ∧ W.cell? ⟨w.heap.size + 1, 0, none⟩ = some (.slice (some ⟨b', off', none⟩) Y.length d0)) ∧ W.rangeAt b (off + k * 3) us ∧ W.rangeAt b' (off' + k * 3) us') (by kernel_rfl) ⟨⟨HF1.out, HF2.out⟩, HC.out, HC'.out⟩ (fun hHeld => ?_)
   generalize wr.drew = w4 at *
   (refine AnyT.ta 0 20 ?_; simp only [Act.put, za, zb, zc])
   (refine AnyT.tk 1 21 ?_; simp only [Act.put, za, zb, zc])
   (refine AnyT.ta 2 22 ?_; simp only [Act.put, za, zb, zc])
   (refine AnyT.ta 3 23 ?_; simp only [Act.put, za, zb, zc])
   refine AnyT.tx 4 24 (.agg us.toArray) (fun W hS => exec_loadMid _ _ rfl b (off + k * 3) rfl us hS.2.1 Tryz.underlying165 rfl HZ.out) ?_
   simp only [Act.put, za, zb, zc]
   (refine AnyT.ta 5 25 ?_; simp only [Act.put, za, zb, zc])
   (refine AnyT.tk 6 26 ?_; simp only [Act.put, za, zb, zc])
   (refine AnyT.ta 7 27 ?_; simp only [Act.put, za, zb, zc])
   (refine AnyT.ta 8 28 ?_; simp only [Act.put, za, zb, zc])
   refine AnyT.tx 9 29 (.agg us'.toArray) (fun W hS => exec_loadMid _ _ rfl b' (off' + k * 3) rfl us' hS.2.2 Tryz.underlying165 rfl HZ'.out) ?_
   simp only [Act.put, za, zb, zc]
   ((refine AnyT.one (i := 10) (by kernel_rfl) rfl (fun K hK => ?_)))
   go_simp
   refine (l03SameNode_o EX EY us us' lo hi lo' hi' w4 HR.out HR'.out (HRd.out.le 3 rfl) (HRd.out.le 2 rfl) HX.out HX'.out).mono ?_
   rintro e5 w5 ⟨rfl, hb5⟩
   go_simp
   have HQ5 := Lib.hid (QS.out _ w5 HQd.out hb5)
   have HRe := Lib.hid (QG.out _ HQ5.out)
   refine hK.out _ _ ⟨⟨(HG.out _ _ _ (HRe.out.get 1 rfl)), (HH.out _ _ _ (HRe.out.get 0 rfl))⟩, rng_below HC.out hb5 (Nat.lt_of_lt_of_le hb2 (HRd.out.le 3 rfl)), rng_below HC'.out hb5 (Nat.lt_of_lt_of_le hb2' (HRd.out.le 2 rfl))⟩ (fun hHeld => ?_)
   clear hK K hb5 HC HC'
   (try simp only [Act.put, za, zb, zc])
   (refine AnyT.ta 11 31 ?_; simp only [Act.put, za, zb, zc])
   refine AnyT.done (by kernel_rfl) ?_ _
   clear hHeld
   by_cases hxy : EX = EY
   ·have HS2 := Lib.hid (HST.out hxy)
    rw [same_t hxy]
    clear HST HNE hxy
    go_wp2_with fail
    go_roundw
    case rel => exact ⟨k + 1, by omega, by go_num, HS2, HQ5⟩
    case measure => simp [intOf]; omega
   ·have HFF := Lib.hid (HANS.out.trans (same_f (fun e => HNE.out hxy (congrArg (fun X : TyTree => X) e))))
    rw [same_f hxy]
    clear hxy HST HNE
    go_wp2_with fail
    go_ret
    exact ⟨by rw [HFF.out]; rfl, (QG.out _ HQ5.out).1⟩
  ·obtain rfl : k = X.length := by omega
   have he := take_all htk.out HL0.out
   clear htk HRr
   subst he
   have HT := Lib.hid (HANS.out.trans (same_t rfl))
   go_wp2_with fail
   go_ret
   exact ⟨by rw [HT.out]; rfl, (QG.out _ hq0.out).1⟩
end Go.Proofs.YtgnmollbnopigaaGreat
/- Comparisons, both sides. Printed by gen_same2.py. -/
namespace Go.Proofs.YtgnmollbnopigaaGreat
open Go.RowKit
theorem l20SameSeats_r (A B : Option Addr) (c d : Nat) (xs ys : List TySeat) (lo hi lo' hi' : Nat) (w : World) (h : (Sh.row 273 shSeat).R w lo hi [.slice A xs.length c] xs) (h' : (Sh.row 273 shSeat).R w lo' hi' [.slice B ys.length d] ys) (hhi : hi ≤ w.heap.size) (hhi' : hi' ≤ w.heap.size) (hn : xs.length ≤ 4294967296) (_hm : ys.length ≤ 4294967296) :
  Calls Tryz.prog 120 #[.slice A xs.length c, .slice B ys.length d] w fun e w' => e = .returned (.bool (sameB xs ys)) ∧ Below w.heap.size w w' := by
 obtain ⟨ANS, hANS⟩ : ∃ b, b = sameB xs ys := ⟨_, rfl⟩
 rw [← hANS]
 have HANS := Lib.hid hANS; clear hANS
 by_cases hl : xs.length = ys.length
 ·have HA := Lib.hid h; have HA' := Lib.hid h'; have HL := Lib.hid hl
  rw [← hl] at HA' ⊢
  clear h h' _hm hl
  go_enter Tryz.func120, Tryz.ntmps120
  go_wp2_with fail
  go_loopw [5] (fun i wr => ∃ k : Nat, k ≤ xs.length ∧ i = .int .i64 k ∧ Hid (xs.take k = ys.take k) ∧ Below w.heap.size w wr) (fun i _ => xs.length - (intOf i).toNat)
  case atStart => exact ⟨0, Nat.zero_le _, rfl, Lib.hid rfl, Below.refl _ _⟩
  case round =>
   obtain ⟨k, hk, rfl, htk, hb⟩ := hrel
   by_cases hlt : k < xs.length
   ·obtain ⟨b, off, rfl, hb1, hb2, us, hc, hX⟩ := row_at ((Sh.row 273 shSeat).R_below HA.out hb hhi) hlt
    obtain ⟨b', off', rfl, hb1', hb2', us', hc', hX'⟩ := row_at ((Sh.row 273 shSeat).R_below HA'.out hb hhi') hlt
    have HST := Lib.hid (fun he => take_step (d := shSeat.d) htk.out hlt HL.out he)
    have HNE := Lib.hid (fun he => ne_at (xs := xs) (ys := ys) (d := shSeat.d) (k := k) he)
    generalize xs.getD k shSeat.d = X at *
    generalize ys.getD k shSeat.d = Y at *
    obtain ⟨x0, x1⟩ := X
    obtain ⟨y0, y1⟩ := Y
    obtain rfl : us = [.int .i64 x0, .int .i64 x1] := shSeat_R.1 hX
    obtain rfl : us' = [.int .i64 y0, .int .i64 y1] := shSeat_R.1 hX'
    have HC := Lib.hid (show wr.drew.rangeAt b (off + k * 2) [.int .i64 x0, .int .i64 x1] from rng_of hc); have HC' := Lib.hid (show wr.drew.rangeAt b' (off' + k * 2) [.int .i64 y0, .int .i64 y1] from rng_of hc')
    have HZ := slH sizeISeat hX; have HZ' := slH sizeISeat hX'
    have HD := Lib.hid hb.drew
    clear hc hc' hX hX' htk
    go_upto_region 6 with fail
    refine AnyT.region (fun _ => false) (fun W => W.rangeAt b (off + k * 2) [.int .i64 x0, .int .i64 x1] ∧ W.rangeAt b' (off' + k * 2) [.int .i64 y0, .int .i64 y1]) (by kernel_rfl) ⟨HC.out, HC'.out⟩ (fun hHeld => ?_)
    generalize wr.drew = w4 at *
    clear HC HC'
    (refine AnyT.ta 0 17 ?_; simp only [Act.put, za, zb, zc])
    (refine AnyT.ta 1 18 ?_; simp only [Act.put, za, zb, zc])
    (refine AnyT.ta 2 19 ?_; simp only [Act.put, za, zb, zc])
    refine AnyT.tx 3 20 (.agg ([.int .i64 x0, .int .i64 x1] : List Value).toArray) (fun W hS => exec_loadMid _ _ rfl b (off + k * 2) rfl _ hS.1 Tryz.underlying273 rfl HZ.out) ?_
    simp only [Act.put, za, zb, zc]
    (refine AnyT.ta 4 21 ?_; simp only [Act.put, za, zb, zc])
    (refine AnyT.ta 5 22 ?_; simp only [Act.put, za, zb, zc])
    (refine AnyT.ta 6 23 ?_; simp only [Act.put, za, zb, zc])
    refine AnyT.tx 7 24 (.agg ([.int .i64 y0, .int .i64 y1] : List Value).toArray) (fun W hS => exec_loadMid _ _ rfl b' (off' + k * 2) rfl _ hS.2 Tryz.underlying273 rfl HZ'.out) ?_
    simp only [Act.put, za, zb, zc]
    refine AnyT.takeAny 8 25 (.bool (!sameB (x0, x1) (y0, y1))) rfl (by kernel_rfl) (by kernel_rfl) (by kernel_rfl) rfl rfl (fun _ _ _ _ h => h) rfl (fun W => exec_neq rfl rfl rfl (by kernel_rfl) (fun w => equalSeat _ _ _ _ w)) (by assumption) ?_
    simp only [Act.put, za, zb, zc]
    refine AnyT.done (by kernel_rfl) ?_ _
    clear hHeld
    by_cases hxy : (x0, x1) = (y0, y1)
    ·have HS2 := Lib.hid (HST.out hxy)
     rw [same_t hxy]
     clear HST HNE hxy
     go_wp2_with fail
     go_roundw
     case rel => exact ⟨k + 1, by omega, by go_num, HS2, HD.out⟩
     case measure => simp [intOf]; omega
    ·have HFF := Lib.hid (HANS.out.trans (same_f (HNE.out hxy)))
     rw [same_f hxy]
     clear hxy HST HNE
     go_wp2_with fail
     go_ret
     exact ⟨by rw [HFF.out]; rfl, HD.out⟩
   ·obtain rfl : k = xs.length := by omega
    have HB := Lib.hid hb; have HT := Lib.hid (HANS.out.trans (same_t (take_all htk.out HL.out))); clear hb htk
    go_wp2_with fail
    go_ret
    exact ⟨by rw [HT.out]; rfl, HB.out⟩
 ·have HFF := Lib.hid (HANS.out.trans (same_f (ne_of_len hl)))
  have n1 : ((xs.length : Int) == (ys.length : Int)) = false := by rw [beq_eq_false_iff_ne]; omega
  have n2 : ((xs.length : Int) != (ys.length : Int)) = true := by rw [bne_iff_ne]; omega
  clear hl h h'
  go_enter Tryz.func120, Tryz.ntmps120
  go_wp2_with fail
  go_ret
  exact ⟨by rw [HFF.out]; rfl, Below.refl _ _⟩
theorem l20SameTop_o : SmS shTop 119 := by
 intro X Y vs us lo hi lo' hi' w h h' hhi hhi' hf hf'
 obtain ⟨ANS, hANS⟩ : ∃ b, b = sameB X Y := ⟨_, rfl⟩
 rw [← hANS]
 obtain ⟨x0, x1, x2, x3⟩ := X
 obtain ⟨y0, y1, y2, y3⟩ := Y
 obtain ⟨ft0, ft1, ft2, ft3⟩ := hf
 obtain ⟨gt0, gt1, gt2, gt3⟩ := hf'
 have HANS := Lib.hid hANS; clear hANS
 obtain ⟨u0, ru0, eu0, k0, u1, ru1, eu1, k1, u2, ru2, eu2, k2, k3⟩ := h
 generalize ru2 = u3 at *
 obtain rfl := (show u0 = [.int .i64 x0] from k0)
 obtain rfl := (show u1 = [.int .i64 x1] from k1)
 obtain rfl := (show u2 = [.int .i64 x2] from k2)
 have qk3 := k3; obtain ⟨A3, c3, rfl, _⟩ := qk3
 have HG := Lib.hid (show ∀ (W : World) (b : Nat) (t : TypeId), Blk W b t vs.toArray → W.cell? ⟨b, 0, none⟩ = some (.int .i64 x0) ∧ W.cell? ⟨b, 1, none⟩ = some (.int .i64 x1) ∧ W.cell? ⟨b, 2, none⟩ = some (.int .i64 x2) ∧ W.cell? ⟨b, 3, none⟩ = some (.slice A3 x3.length c3) from fun W b t hB => by
  have q := blk_all hB
  obtain ⟨p0, q⟩ := rsp eu0 rfl q
  obtain ⟨p1, q⟩ := rsp eu1 rfl q
  obtain ⟨p2, q⟩ := rsp eu2 rfl q
  exact ⟨rng_one p0, rng_one p1, rng_one p2, rng_one q⟩)
 clear eu0 eu1 eu2
 obtain ⟨v0, rv0, ev0, l0, v1, rv1, ev1, l1, v2, rv2, ev2, l2, l3⟩ := h'
 generalize rv2 = v3 at *
 obtain rfl := (show v0 = [.int .i64 y0] from l0)
 obtain rfl := (show v1 = [.int .i64 y1] from l1)
 obtain rfl := (show v2 = [.int .i64 y2] from l2)
 have ql3 := l3; obtain ⟨B3, d3, rfl, _⟩ := ql3
 have HH := Lib.hid (show ∀ (W : World) (b : Nat) (t : TypeId), Blk W b t us.toArray → W.cell? ⟨b, 0, none⟩ = some (.int .i64 y0) ∧ W.cell? ⟨b, 1, none⟩ = some (.int .i64 y1) ∧ W.cell? ⟨b, 2, none⟩ = some (.int .i64 y2) ∧ W.cell? ⟨b, 3, none⟩ = some (.slice B3 y3.length d3) from fun W b t hB => by
  have q := blk_all hB
  obtain ⟨p0, q⟩ := rsp ev0 rfl q
  obtain ⟨p1, q⟩ := rsp ev1 rfl q
  obtain ⟨p2, q⟩ := rsp ev2 rfl q
  exact ⟨rng_one p0, rng_one p1, rng_one p2, rng_one q⟩)
 clear ev0 ev1 ev2
 have R0 := (((((Stand.nil w).ad (Sh.row 273 shSeat).R [.slice A3 x3.length c3] x3 hhi k3 (Sh.row 273 shSeat).R_keep).ad (Sh.row 273 shSeat).R [.slice B3 y3.length d3] y3 hhi' l3 (Sh.row 273 shSeat).R_keep).box 83 vs.toArray).box 83 us.toArray)
 rw [heap_alloc_size1] at R0
 have HR0 := Lib.hid R0
 clear R0 k3 l3
 go_enter Tryz.func119, Tryz.ntmps119
 have f0 := (HG.out _ _ _ (HR0.out.get 1 rfl)).1
 have g0 := (HH.out _ _ _ (HR0.out.get 0 rfl)).1
 have f1 := (HG.out _ _ _ (HR0.out.get 1 rfl)).2.1
 have g1 := (HH.out _ _ _ (HR0.out.get 0 rfl)).2.1
 have f2 := (HG.out _ _ _ (HR0.out.get 1 rfl)).2.2.1
 have g2 := (HH.out _ _ _ (HR0.out.get 0 rfl)).2.2.1
 have f3 := (HG.out _ _ _ (HR0.out.get 1 rfl)).2.2.2
 have g3 := (HH.out _ _ _ (HR0.out.get 0 rfl)).2.2.2
 by_cases hne : x0 = y0
 rotate_left
 ·have HF := nf (fun X : TyTop => X.1) HANS hne
  have hq : (x0 == y0) = false := beq_eq_false_iff_ne.2 hne
  clear hne
  go_wp2_with fail
  go_ret
  exact ⟨by rw [HF.out]; rfl, HR0.out.1⟩
 subst hne
 by_cases hne : x1 = y1
 rotate_left
 ·have HF := nf (fun X : TyTop => X.2.1) HANS hne
  have hq : (x1 == y1) = false := beq_eq_false_iff_ne.2 hne
  clear hne
  go_wp2_with fail
  go_ret
  exact ⟨by rw [HF.out]; rfl, HR0.out.1⟩
 subst hne
 by_cases hne : x2 = y2
 rotate_left
 ·have HF := nf (fun X : TyTop => X.2.2.1) HANS hne
  have hq : (x2 == y2) = false := beq_eq_false_iff_ne.2 hne
  clear hne
  go_wp2_with fail
  go_ret
  exact ⟨by rw [HF.out]; rfl, HR0.out.1⟩
 subst hne
 go_wp2_with fail
 refine (l20SameSeats_r A3 B3 c3 d3 x3 y3 lo hi lo' hi' _ (HR0.out.get 3 rfl) (HR0.out.get 2 rfl) (HR0.out.le 3 rfl) (HR0.out.le 2 rfl) ft3.1 gt3.1).mono ?_
 rintro e3 w3 ⟨rfl, hb3⟩
 have HR1 := Lib.hid (HR0.out.below hb3)
 clear hb3 HR0  f0 g0 f1 g1 f2 g2 f3 g3
 by_cases hne : x3 = y3
 rotate_left
 ·rw [same_f hne]
  have HF := nf (fun X : TyTop => X.2.2.2) HANS hne
  clear hne
  go_wp2_with fail
  go_ret
  exact ⟨by rw [HF.out]; rfl, HR1.out.1⟩
 rw [same_t hne]
 subst hne
 have HT := Lib.hid (HANS.out.trans (same_t rfl))
 go_wp2_with fail
 go_ret
 exact ⟨by rw [HT.out]; rfl, HR1.out.1⟩
end Go.Proofs.YtgnmollbnopigaaGreat
