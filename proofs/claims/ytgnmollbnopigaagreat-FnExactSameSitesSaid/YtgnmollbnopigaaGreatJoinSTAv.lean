/- SameSubs, l24Texts of the reference; guarded loads of ranges. -/
import Derived.Test.YtgnmollbnopigaaGreatJoinSTAs
import Derived.Test.YtgnmollbnopigaaGreatJoinSTAt
import Derived.Laws.StructEq
set_option maxHeartbeats 16000000
set_option maxRecDepth 100000
namespace Go.Proofs.YtgnmollbnopigaaGreat
open Go.RowKit
theorem sizeINode : (Tryz.prog.info? 165).map (·.size) = some shNode.k := by kernel_rfl
theorem sizeILock : (Tryz.prog.info? 231).map (·.size) = some shLock.k := by kernel_rfl
theorem sizeIAsk : (Tryz.prog.info? 233).map (·.size) = some shAsk.k := by kernel_rfl
theorem sizeIEvent : (Tryz.prog.info? 247).map (·.size) = some shEvent.k := by kernel_rfl
theorem sizeIBatch : (Tryz.prog.info? 167).map (·.size) = some shBatch.k := by kernel_rfl
theorem sizeITrigger : (Tryz.prog.info? 229).map (·.size) = some shTrigger.k := by kernel_rfl
theorem sizeIEntry : (Tryz.prog.info? 228).map (·.size) = some shEntry.k := by kernel_rfl
theorem sizeIIns : (Tryz.prog.info? 226).map (·.size) = some shIns.k := by kernel_rfl
theorem sizeIRef : (Tryz.prog.info? 152).map (·.size) = some shRef.k := by kernel_rfl
theorem sizeIGiven : (Tryz.prog.info? 322).map (·.size) = some shGiven.k := by kernel_rfl
theorem sizeILoop : (Tryz.prog.info? 325).map (·.size) = some shLoop.k := by kernel_rfl
theorem sizeIFrame : (Tryz.prog.info? 328).map (·.size) = some shFrame.k := by kernel_rfl
theorem sizeIBind : (Tryz.prog.info? 359).map (·.size) = some shBind.k := by kernel_rfl
theorem sizeICell : (Tryz.prog.info? 353).map (·.size) = some shCell.k := by kernel_rfl
theorem sizeILevel : (Tryz.prog.info? 356).map (·.size) = some shLevel.k := by kernel_rfl
theorem sizeILocals : (Tryz.prog.info? 150).map (·.size) = some shLocals.k := by kernel_rfl
theorem sizeISlot : (Tryz.prog.info? 239).map (·.size) = some shSlot.k := by kernel_rfl
theorem sizeIPage : (Tryz.prog.info? 237).map (·.size) = some shPage.k := by kernel_rfl
theorem sizeIPut : (Tryz.prog.info? 306).map (·.size) = some shPut.k := by kernel_rfl
theorem sizeISeat : (Tryz.prog.info? 273).map (·.size) = some shSeat.k := by kernel_rfl
theorem exec_neq {P : Program} {o : Oper} {a : Go.Act} {w : World} {T ty : TypeId} {x y : Operand} {cx cy : Array Value} {b : Bool} (ho : o.op = .binOp .neq T x y ty) (hx : a.eval x = .agg cx) (hy : a.eval y = .agg cy) (hm : P.eqGuardType P.depth T = false)
  (he : ∀ w, (Op.equalIn 10000 T (.agg cx) (.agg cy)).run P w = .ok b w) : (execOp a.eval o).run P w = .ok (.value (.bool (!b))) w := by
 unfold execOp
 simp [ho, hx, hy, run_eqGuard_agg w .neq T x y cx cy hm, run_neq_struct, he]
theorem sameSubs_r (A B : Option Addr) (c d : Nat) (xs ys : List ByteArray) (lo hi lo' hi' : Nat) (w : World) (h : (Sh.row 9 shS).R w lo hi [.slice A xs.length c] xs) (h' : (Sh.row 9 shS).R w lo' hi' [.slice B ys.length d] ys) (hhi : hi ≤ w.heap.size) (hhi' : hi' ≤ w.heap.size) (hn : xs.length ≤ 4294967296) (hm : ys.length ≤ 4294967296) :
  Calls Tryz.prog 38 #[.slice A xs.length c, .slice B ys.length d] w fun e w' => e = .returned (.bool (sameB xs ys)) ∧ Below w.heap.size w w' := by
 have HC := Lib.hid (l02Same_r A B c d xs ys lo hi lo' hi' w h h' hhi hhi' hn hm)
 generalize sameB xs ys = ANS at *
 clear h h'
 go_enter Tryz.func38, Tryz.ntmps38
 go_wp2_with fail
 refine HC.out.mono ?_
 rintro e1 w1 ⟨rfl, hb1⟩
 have HB := Lib.hid hb1; clear hb1 HC
 go_wp2_with fail
 go_ret
 exact ⟨rfl, HB.out⟩
end Go.Proofs.YtgnmollbnopigaaGreat
/- Comparisons, both sides. Printed by gen_same2.py. -/
namespace Go.Proofs.YtgnmollbnopigaaGreat
open Go.RowKit
theorem sameNode_o : SmS shNode 81 := by
 intro X Y vs us lo hi lo' hi' w h h' hhi hhi' hf hf'
 obtain ⟨ANS, hANS⟩ : ∃ b, b = sameB X Y := ⟨_, rfl⟩
 rw [← hANS]
 obtain ⟨x0, x1, x2⟩ := X
 obtain ⟨y0, y1, y2⟩ := Y
 obtain ⟨ft0, ft1, ft2⟩ := hf
 obtain ⟨gt0, gt1, gt2⟩ := hf'
 have HANS := Lib.hid hANS; clear hANS
 obtain ⟨u0, ru0, eu0, k0, u1, ru1, eu1, k1, k2⟩ := h
 generalize ru1 = u2 at *
 obtain rfl := (show u0 = [.string x0] from k0)
 have qk1 := k1; obtain ⟨A1, c1, rfl, _⟩ := qk1
 obtain rfl := (show u2 = [.string x2] from k2)
 have HG := Lib.hid (show ∀ (W : World) (b : Nat) (t : TypeId), Blk W b t vs.toArray → W.cell? ⟨b, 0, none⟩ = some (.string x0) ∧ W.cell? ⟨b, 1, none⟩ = some (.slice A1 x1.length c1) ∧ W.cell? ⟨b, 2, none⟩ = some (.string x2) from fun W b t hB => by
  have q := blk_all hB
  obtain ⟨p0, q⟩ := rsp eu0 rfl q
  obtain ⟨p1, q⟩ := rsp eu1 rfl q
  exact ⟨rng_one p0, rng_one p1, rng_one q⟩)
 clear eu0 eu1
 obtain ⟨v0, rv0, ev0, l0, v1, rv1, ev1, l1, l2⟩ := h'
 generalize rv1 = v2 at *
 obtain rfl := (show v0 = [.string y0] from l0)
 have ql1 := l1; obtain ⟨B1, d1, rfl, _⟩ := ql1
 obtain rfl := (show v2 = [.string y2] from l2)
 have HH := Lib.hid (show ∀ (W : World) (b : Nat) (t : TypeId), Blk W b t us.toArray → W.cell? ⟨b, 0, none⟩ = some (.string y0) ∧ W.cell? ⟨b, 1, none⟩ = some (.slice B1 y1.length d1) ∧ W.cell? ⟨b, 2, none⟩ = some (.string y2) from fun W b t hB => by
  have q := blk_all hB
  obtain ⟨p0, q⟩ := rsp ev0 rfl q
  obtain ⟨p1, q⟩ := rsp ev1 rfl q
  exact ⟨rng_one p0, rng_one p1, rng_one q⟩)
 clear ev0 ev1
 have R0 := (((((Stand.nil w).ad (Sh.row 9 shS).R [.slice A1 x1.length c1] x1 hhi k1 (Sh.row 9 shS).R_keep).ad (Sh.row 9 shS).R [.slice B1 y1.length d1] y1 hhi' l1 (Sh.row 9 shS).R_keep).box 165 vs.toArray).box 165 us.toArray)
 rw [heap_alloc_size1] at R0
 have HR0 := Lib.hid R0
 clear R0 k1 l1
 go_enter Tryz.func81, Tryz.ntmps81
 have f0 := (HG.out _ _ _ (HR0.out.get 1 rfl)).1
 have g0 := (HH.out _ _ _ (HR0.out.get 0 rfl)).1
 have f2 := (HG.out _ _ _ (HR0.out.get 1 rfl)).2.2
 have g2 := (HH.out _ _ _ (HR0.out.get 0 rfl)).2.2
 have f1 := (HG.out _ _ _ (HR0.out.get 1 rfl)).2.1
 have g1 := (HH.out _ _ _ (HR0.out.get 0 rfl)).2.1
 by_cases hne : x0 = y0
 rotate_left
 ·have HF := nf (fun X : TyNode => X.1) HANS hne
  have hq : (x0.toList == y0.toList) = false := str_ne hne
  clear hne
  go_wp2_with fail
  go_ret
  exact ⟨by rw [HF.out]; rfl, HR0.out.1⟩
 subst hne
 by_cases hne : x2 = y2
 rotate_left
 ·have HF := nf (fun X : TyNode => X.2.2) HANS hne
  have hq : (x2.toList == y2.toList) = false := str_ne hne
  clear hne
  go_wp2_with fail
  go_ret
  exact ⟨by rw [HF.out]; rfl, HR0.out.1⟩
 subst hne
 go_wp2_with fail
 refine (eqlStr A1 B1 c1 d1 x1 y1 lo hi lo' hi' _ (HR0.out.get 3 rfl) (HR0.out.get 2 rfl) (HR0.out.le 3 rfl) (HR0.out.le 2 rfl) ft1.1 gt1.1).mono ?_
 rintro e1 w1 ⟨rfl, hb1⟩
 have HR1 := Lib.hid (HR0.out.below hb1)
 clear hb1 HR0  f0 g0 f2 g2 f1 g1
 by_cases hne : x1 = y1
 rotate_left
 ·rw [same_f hne]
  have HF := nf (fun X : TyNode => X.2.1) HANS hne
  clear hne
  go_wp2_with fail
  go_ret
  exact ⟨by rw [HF.out]; rfl, HR1.out.1⟩
 rw [same_t hne]
 subst hne
 have HT := Lib.hid (HANS.out.trans (same_t rfl))
 go_wp2_with fail
 go_ret
 exact ⟨by rw [HT.out]; rfl, HR1.out.1⟩
theorem l03SameNode_o : SmS shNode 61 := by
 intro X Y vs us lo hi lo' hi' w h h' hhi hhi' hf hf'
 obtain ⟨ANS, hANS⟩ : ∃ b, b = sameB X Y := ⟨_, rfl⟩
 rw [← hANS]
 obtain ⟨x0, x1, x2⟩ := X
 obtain ⟨y0, y1, y2⟩ := Y
 obtain ⟨ft0, ft1, ft2⟩ := hf
 obtain ⟨gt0, gt1, gt2⟩ := hf'
 have HANS := Lib.hid hANS; clear hANS
 obtain ⟨u0, ru0, eu0, k0, u1, ru1, eu1, k1, k2⟩ := h
 generalize ru1 = u2 at *
 obtain rfl := (show u0 = [.string x0] from k0)
 have qk1 := k1; obtain ⟨A1, c1, rfl, _⟩ := qk1
 obtain rfl := (show u2 = [.string x2] from k2)
 have HG := Lib.hid (show ∀ (W : World) (b : Nat) (t : TypeId), Blk W b t vs.toArray → W.cell? ⟨b, 0, none⟩ = some (.string x0) ∧ W.cell? ⟨b, 1, none⟩ = some (.slice A1 x1.length c1) ∧ W.cell? ⟨b, 2, none⟩ = some (.string x2) from fun W b t hB => by
  have q := blk_all hB
  obtain ⟨p0, q⟩ := rsp eu0 rfl q
  obtain ⟨p1, q⟩ := rsp eu1 rfl q
  exact ⟨rng_one p0, rng_one p1, rng_one q⟩)
 clear eu0 eu1
 obtain ⟨v0, rv0, ev0, l0, v1, rv1, ev1, l1, l2⟩ := h'
 generalize rv1 = v2 at *
 obtain rfl := (show v0 = [.string y0] from l0)
 have ql1 := l1; obtain ⟨B1, d1, rfl, _⟩ := ql1
 obtain rfl := (show v2 = [.string y2] from l2)
 have HH := Lib.hid (show ∀ (W : World) (b : Nat) (t : TypeId), Blk W b t us.toArray → W.cell? ⟨b, 0, none⟩ = some (.string y0) ∧ W.cell? ⟨b, 1, none⟩ = some (.slice B1 y1.length d1) ∧ W.cell? ⟨b, 2, none⟩ = some (.string y2) from fun W b t hB => by
  have q := blk_all hB
  obtain ⟨p0, q⟩ := rsp ev0 rfl q
  obtain ⟨p1, q⟩ := rsp ev1 rfl q
  exact ⟨rng_one p0, rng_one p1, rng_one q⟩)
 clear ev0 ev1
 have R0 := (((((Stand.nil w).ad (Sh.row 9 shS).R [.slice A1 x1.length c1] x1 hhi k1 (Sh.row 9 shS).R_keep).ad (Sh.row 9 shS).R [.slice B1 y1.length d1] y1 hhi' l1 (Sh.row 9 shS).R_keep).box 165 vs.toArray).box 165 us.toArray)
 rw [heap_alloc_size1] at R0
 have HR0 := Lib.hid R0
 clear R0 k1 l1
 go_enter Tryz.func61, Tryz.ntmps61
 have f0 := (HG.out _ _ _ (HR0.out.get 1 rfl)).1
 have g0 := (HH.out _ _ _ (HR0.out.get 0 rfl)).1
 have f2 := (HG.out _ _ _ (HR0.out.get 1 rfl)).2.2
 have g2 := (HH.out _ _ _ (HR0.out.get 0 rfl)).2.2
 have f1 := (HG.out _ _ _ (HR0.out.get 1 rfl)).2.1
 have g1 := (HH.out _ _ _ (HR0.out.get 0 rfl)).2.1
 by_cases hne : x0 = y0
 rotate_left
 ·have HF := nf (fun X : TyNode => X.1) HANS hne
  have hq : (x0.toList == y0.toList) = false := str_ne hne
  clear hne
  go_wp2_with fail
  go_ret
  exact ⟨by rw [HF.out]; rfl, HR0.out.1⟩
 subst hne
 by_cases hne : x2 = y2
 rotate_left
 ·have HF := nf (fun X : TyNode => X.2.2) HANS hne
  have hq : (x2.toList == y2.toList) = false := str_ne hne
  clear hne
  go_wp2_with fail
  go_ret
  exact ⟨by rw [HF.out]; rfl, HR0.out.1⟩
 subst hne
 go_wp2_with fail
 refine (sameSubs_r A1 B1 c1 d1 x1 y1 lo hi lo' hi' _ (HR0.out.get 3 rfl) (HR0.out.get 2 rfl) (HR0.out.le 3 rfl) (HR0.out.le 2 rfl) ft1.1 gt1.1).mono ?_
 rintro e1 w1 ⟨rfl, hb1⟩
 have HR1 := Lib.hid (HR0.out.below hb1)
 clear hb1 HR0  f0 g0 f2 g2 f1 g1
 by_cases hne : x1 = y1
 rotate_left
 ·rw [same_f hne]
  have HF := nf (fun X : TyNode => X.2.1) HANS hne
  clear hne
  go_wp2_with fail
  go_ret
  exact ⟨by rw [HF.out]; rfl, HR1.out.1⟩
 rw [same_t hne]
 subst hne
 have HT := Lib.hid (HANS.out.trans (same_t rfl))
 go_wp2_with fail
 go_ret
 exact ⟨by rw [HT.out]; rfl, HR1.out.1⟩
end Go.Proofs.YtgnmollbnopigaaGreat
/- Comparisons, both sides. Printed by gen_same2.py. -/
namespace Go.Proofs.YtgnmollbnopigaaGreat
open Go.RowKit
theorem eqfNode : SmF 165 shNode 80 81 := by
 intro A B c d xs ys lo hi lo' hi' w h h' hhi hhi' hf hf'
 obtain ⟨ANS, hANS⟩ : ∃ b, b = sameB xs ys := ⟨_, rfl⟩
 rw [← hANS]
 have HANS := Lib.hid hANS; clear hANS
 have hn := hf.1
 by_cases hl : xs.length = ys.length
 ·have HA := Lib.hid h; have HA' := Lib.hid h'; have HL := Lib.hid hl; have HF := Lib.hid hf.2; have HF' := Lib.hid hf'.2
  rw [← hl] at HA' ⊢
  clear h h' hl hf hf'
  go_enter Tryz.func80, Tryz.ntmps80
  go_wp2_with fail
  go_loopw [17] (fun i wr => ∃ k : Nat, k ≤ xs.length ∧ i = .int .i64 k ∧ Hid (xs.take k = ys.take k) ∧ Below w.heap.size w wr) (fun i _ => xs.length - (intOf i).toNat)
  case atStart => exact ⟨0, Nat.zero_le _, rfl, Lib.hid rfl, Below.refl _ _⟩
  case round =>
   obtain ⟨k, hk, rfl, htk, hb⟩ := hrel
   by_cases hlt : k < xs.length
   ·have hly : k < ys.length := by have := HL.out; omega
    obtain ⟨b, off, rfl, hb1, hb2, us, hc, hX⟩ := row_at ((Sh.row 165 shNode).R_below HA.out hb hhi) hlt
    obtain ⟨b', off', rfl, hb1', hb2', us', hc', hX'⟩ := row_at ((Sh.row 165 shNode).R_below HA'.out hb hhi') hlt
    have HST := Lib.hid (fun he => take_step (d := shNode.d) htk.out hlt HL.out he)
    have HNE := Lib.hid (fun he => ne_at (xs := xs) (ys := ys) (d := shNode.d) (k := k) he)
    have HX := Lib.hid (HF.out _ (getD_in (d := shNode.d) hlt)); have HX' := Lib.hid (HF'.out _ (getD_in (d := shNode.d) hly))
    generalize xs.getD k shNode.d = X at *
    generalize ys.getD k shNode.d = Y at *
    have hsz := hb.size
    have hlu := shNode.R_len hX; have hlu' := shNode.R_len hX'
    obtain ⟨HC, HZ, HS, HO⟩ := elF (P := Tryz.prog) sizeINode hc hX
    obtain ⟨HC', HZ', HS', HO'⟩ := elF (P := Tryz.prog) sizeINode hc' hX'
    have HT := Lib.hid (there_blk (n := us.toArray.size) (o := 0) (Blk.new wr 165 #[.string ⟨#[]⟩, .slice none 0 0, .string ⟨#[]⟩]) (by rw [List.size_toArray, hlu]; exact Nat.le_refl _))
    have HR := Lib.hid hX; have HR' := Lib.hid hX'; have HB := Lib.hid hb
    obtain ⟨hbl, hr1, hz5⟩ := cpyF HT.out
    have HBL := Lib.hid hbl; have HR1 := Lib.hid hr1
    clear hb hX hX' hc hc' htk hbl hr1
    go_upto_region 6 with (first | fail | (refine wlg b (off + k * 3) us HC.out Tryz.underlying165 HZ.out ?_) | (refine wpList_store_mid rfl _ _ _ rfl wr.heap.size 0 us.toArray rfl rfl HT.out HS.out HO.out ?_))
    clear HT HS HO
    generalize (wr.alloc (.cells #[.string ⟨#[]⟩, .slice none 0 0, .string ⟨#[]⟩] 165)).setCells wr.heap.size 0 us = w5 at *
    have HC5 := Lib.hid (rng_below HC'.out HBL.out (by omega))
    have HT := Lib.hid (there_blk (n := us'.toArray.size) (o := 0) (Blk.new w5 165 #[.string ⟨#[]⟩, .slice none 0 0, .string ⟨#[]⟩]) (by rw [List.size_toArray, hlu']; exact Nat.le_refl _))
    have hbl : Below w5.heap.size w5 ((w5.alloc (.cells #[.string ⟨#[]⟩, .slice none 0 0, .string ⟨#[]⟩] 165)).setCells w5.heap.size 0 us') := ((Below.refl _ _).alloc (Nat.le_refl _) _).trans ((setCells_out w5.heap.size us' 0 (w5.alloc (.cells #[.string ⟨#[]⟩, .slice none 0 0, .string ⟨#[]⟩] 165))).1.below1 (Nat.le_refl _) (by simp))
    have hr2 : ((w5.alloc (.cells #[.string ⟨#[]⟩, .slice none 0 0, .string ⟨#[]⟩] 165)).setCells w5.heap.size 0 us').rangeAt w5.heap.size 0 us' := World.rangeAt_setCells_same _ _ _ _ (by simpa using HT.out)
    have HBM := Lib.hid hbl; have HR2 := Lib.hid hr2; have HQ1 := Lib.hid (rng_below HR1.out hbl (by omega))
    clear hbl hr2 HC HC' HR1
    go_upto_region 7 with (first | fail | (refine wlg b' (off' + k * 3) us' HC5.out Tryz.underlying165 HZ'.out ?_) | (refine wpList_store_mid rfl _ _ _ rfl w5.heap.size 0 us'.toArray rfl rfl HT.out HS'.out HO'.out ?_))
    clear HT HS' HO' HC5
    have HBB := Lib.hid (HBL.out.trans (HBM.out.mono (by omega)))
    generalize (w5.alloc (.cells #[.string ⟨#[]⟩, .slice none 0 0, .string ⟨#[]⟩] 165)).setCells w5.heap.size 0 us' = w6 at *
    have hs6 := HBB.out.size
    go_wp2_with (first | fail | (refine wlg wr.heap.size 0 us HQ1.out Tryz.underlying165 HZ.out ?_) | (refine wlg w5.heap.size 0 us' HR2.out Tryz.underlying165 HZ'.out ?_))
    refine (sameNode_o X Y us us' lo hi lo' hi' w6 (shNode.R_below HR.out HBB.out (by omega)) (shNode.R_below HR'.out HBB.out (by omega)) (by omega) (by omega) HX.out HX'.out).mono ?_
    rintro e7 w7 ⟨rfl, hb7⟩
    have HD := Lib.hid (HB.out.trans ((HBB.out.mono hsz).trans (hb7.mono (by omega))))
    clear hb7 HQ1 HR2
    by_cases hxy : X = Y
    ·have HS2 := Lib.hid (HST.out hxy)
     rw [same_t hxy]
     go_wp2_with fail
     go_roundw
     case rel => exact ⟨k + 1, by omega, by go_num, HS2, HD.out⟩
     case measure => simp [intOf]; omega
    ·have HFF := Lib.hid (HANS.out.trans (same_f (HNE.out hxy)))
     rw [same_f hxy]
     clear hxy HST HNE
     go_wp2_with fail
     go_ret
     exact ⟨by rw [HFF.out]; rfl, HD.out⟩
   ·obtain rfl : k = xs.length := by omega
    have HB := Lib.hid hb; have HT := Lib.hid (HANS.out.trans (same_t (take_all htk.out HL.out))); clear hb htk
    go_wp2_with fail
    go_ret
    exact ⟨by rw [HT.out]; rfl, HB.out⟩
 ·have HFF := Lib.hid (HANS.out.trans (same_f (ne_of_len hl)))
  have hm := hf'.1
  have n1 : ((xs.length : Int) == (ys.length : Int)) = false := by rw [beq_eq_false_iff_ne]; omega
  have n2 : ((xs.length : Int) != (ys.length : Int)) = true := by rw [bne_iff_ne]; omega
  clear hl h h' hf hf'
  go_enter Tryz.func80, Tryz.ntmps80
  go_wp2_with fail
  go_ret
  exact ⟨by rw [HFF.out]; rfl, Below.refl _ _⟩
theorem iSameTree_o : SmS shTree 29 := by
 intro X Y vs us lo hi lo' hi' w h h' hhi hhi' hf hf'
 obtain ⟨ANS, hANS⟩ : ∃ b, b = sameB X Y := ⟨_, rfl⟩
 rw [← hANS]
 have HANS := Lib.hid hANS; clear hANS
 have ft0 := hf; have gt0 := hf'
 have k0 := h; obtain ⟨A0, c0, rfl, _⟩ := h
 have l0 := h'; obtain ⟨B0, d0, rfl, _⟩ := h'
 have HG := Lib.hid (show ∀ (W : World) (b : Nat) (t : TypeId), Blk W b t ([.slice A0 X.length c0] : List Value).toArray → W.cell? ⟨b, 0, none⟩ = some (.slice A0 X.length c0) from fun W b t hB => rng_one (blk_all hB))
 have HH := Lib.hid (show ∀ (W : World) (b : Nat) (t : TypeId), Blk W b t ([.slice B0 Y.length d0] : List Value).toArray → W.cell? ⟨b, 0, none⟩ = some (.slice B0 Y.length d0) from fun W b t hB => rng_one (blk_all hB))
 have R0 := (((((Stand.nil w).ad (Sh.row 165 shNode).R [.slice A0 X.length c0] X hhi k0 (Sh.row 165 shNode).R_keep).ad (Sh.row 165 shNode).R [.slice B0 Y.length d0] Y hhi' l0 (Sh.row 165 shNode).R_keep).box 66 ([.slice A0 X.length c0] : List Value).toArray).box 66 ([.slice B0 Y.length d0] : List Value).toArray)
 rw [heap_alloc_size1] at R0
 have HR0 := Lib.hid R0
 clear R0 k0 l0
 go_enter Tryz.func29, Tryz.ntmps29
 have f0 := (HG.out _ _ _ (HR0.out.get 1 rfl))
 have g0 := (HH.out _ _ _ (HR0.out.get 0 rfl))
 go_wp2_with fail
 refine (eqfNode A0 B0 c0 d0 X Y lo hi lo' hi' _ (HR0.out.get 3 rfl) (HR0.out.get 2 rfl) (HR0.out.le 3 rfl) (HR0.out.le 2 rfl) hf hf').mono ?_
 rintro e0 w0 ⟨rfl, hb0⟩
 have HR1 := Lib.hid (HR0.out.below hb0)
 clear hb0 HR0  f0 g0
 by_cases hne : X = Y
 rotate_left
 ·rw [same_f hne]
  have HF := nf (fun X : TyTree => X) HANS hne
  clear hne
  go_wp2_with fail
  go_ret
  exact ⟨by rw [HF.out]; rfl, HR1.out.1⟩
 rw [same_t hne]
 subst hne
 have HT := Lib.hid (HANS.out.trans (same_t rfl))
 go_wp2_with fail
 go_ret
 exact ⟨by rw [HT.out]; rfl, HR1.out.1⟩
end Go.Proofs.YtgnmollbnopigaaGreat
/- A range of one cell. -/
namespace Go.Proofs.YtgnmollbnopigaaGreat
open Go.RowKit
theorem rng_of1 {w : World} {b off k : Nat} {vs : List Value} (h : CellsAt w b (off + k * 1) vs) : w.rangeAt b (off + k) vs := by
 have := rng_of h; rwa [Nat.mul_one] at this
end Go.Proofs.YtgnmollbnopigaaGreat
