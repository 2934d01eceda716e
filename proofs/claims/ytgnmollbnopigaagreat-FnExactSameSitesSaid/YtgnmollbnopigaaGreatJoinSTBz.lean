/- Comparisons, both sides. Printed by gen_same2.py. -/
import Derived.Test.YtgnmollbnopigaaGreatJoinSTBf
import Derived.Test.YtgnmollbnopigaaGreatJoinSTBm
import Derived.Test.YtgnmollbnopigaaGreatJoinSTBt
import Derived.Test.YtgnmollbnopigaaGreatJoinSTBx
import Derived.Test.YtgnmollbnopigaaGreatJoinSTAr
import Derived.Test.YtgnmollbnopigaaGreatJoinSTBy
import Derived.Test.YtgnmollbnopigaaGreatJoinSTBa
set_option maxHeartbeats 16000000
set_option maxRecDepth 100000
namespace Go.Proofs.YtgnmollbnopigaaGreat
open Go.RowKit
theorem iSameSites_o : SmS shSites 13 := by
 intro X Y vs us lo hi lo' hi' w h h' hhi hhi' hf hf'
 obtain ⟨ANS, hANS⟩ : ∃ b, b = sameB X Y := ⟨_, rfl⟩
 rw [← hANS]
 obtain ⟨X0, X1, x2, x3⟩ := X
 obtain ⟨Y0, Y1, y2, y3⟩ := Y
 obtain ⟨ft0, ft1, ft2, ft3⟩ := hf
 obtain ⟨gt0, gt1, gt2, gt3⟩ := hf'
 have HANS := Lib.hid hANS; clear hANS
 obtain ⟨u0, ru0, eu0, k0, u1, ru1, eu1, k1, u2, ru2, eu2, k2, k3⟩ := h
 generalize ru2 = u3 at *
 have qk2 := k2; obtain ⟨A2, c2, rfl, _⟩ := qk2
 obtain rfl := (show u3 = [.int .i64 x3] from k3)
 have HG := Lib.hid (show ∀ (W : World) (b : Nat) (t : TypeId), Blk W b t vs.toArray → W.rangeAt b 0 u0 ∧ W.rangeAt b 37 u1 ∧ W.cell? ⟨b, 40, none⟩ = some (.slice A2 x2.length c2) ∧ W.cell? ⟨b, 41, none⟩ = some (.int .i64 x3) from fun W b t hB => by
  have q := blk_all hB
  obtain ⟨p0, q⟩ := rsp eu0 (shSite.R_len k0) q
  obtain ⟨p1, q⟩ := rsp eu1 (shReplica.R_len k1) q
  obtain ⟨p2, q⟩ := rsp eu2 rfl q
  exact ⟨p0, p1, rng_one p2, rng_one q⟩)
 clear eu0 eu1 eu2
 obtain ⟨v0, rv0, ev0, l0, v1, rv1, ev1, l1, v2, rv2, ev2, l2, l3⟩ := h'
 generalize rv2 = v3 at *
 have ql2 := l2; obtain ⟨B2, d2, rfl, _⟩ := ql2
 obtain rfl := (show v3 = [.int .i64 y3] from l3)
 have HH := Lib.hid (show ∀ (W : World) (b : Nat) (t : TypeId), Blk W b t us.toArray → W.rangeAt b 0 v0 ∧ W.rangeAt b 37 v1 ∧ W.cell? ⟨b, 40, none⟩ = some (.slice B2 y2.length d2) ∧ W.cell? ⟨b, 41, none⟩ = some (.int .i64 y3) from fun W b t hB => by
  have q := blk_all hB
  obtain ⟨p0, q⟩ := rsp ev0 (shSite.R_len l0) q
  obtain ⟨p1, q⟩ := rsp ev1 (shReplica.R_len l1) q
  obtain ⟨p2, q⟩ := rsp ev2 rfl q
  exact ⟨p0, p1, rng_one p2, rng_one q⟩)
 clear ev0 ev1 ev2
 have R0 := (((((((((Stand.nil w).ad shSite.R u0 X0 hhi k0 shSite.R_keep).ad shReplica.R u1 X1 hhi k1 shReplica.R_keep).ad (Sh.row 9 shS).R [.slice A2 x2.length c2] x2 hhi k2 (Sh.row 9 shS).R_keep).ad shSite.R v0 Y0 hhi' l0 shSite.R_keep).ad shReplica.R v1 Y1 hhi' l1 shReplica.R_keep).ad (Sh.row 9 shS).R [.slice B2 y2.length d2] y2 hhi' l2 (Sh.row 9 shS).R_keep).box 105 vs.toArray).box 105 us.toArray)
 rw [heap_alloc_size1] at R0
 have HR0 := Lib.hid R0
 have HZ0 := slH sizeISite k0
 have HY0 := slH sizeISite l0
 have HZ1 := slH sizeIReplica k1
 have HY1 := slH sizeIReplica l1
 clear R0 k0 l0 k1 l1 k2 l2
 go_enter Tryz.func13, Tryz.ntmps13
 go_wp2_with (first | fail | (refine wlg w.heap.size 0 u0 (HG.out _ _ _ (HR0.out.get 1 rfl)).1 Tryz.underlying91 HZ0.out ?_) | (refine wlg (w.heap.size + 1) 0 v0 (HH.out _ _ _ (HR0.out.get 0 rfl)).1 Tryz.underlying91 HY0.out ?_))
 refine (iSameSite_o X0 Y0 u0 v0 lo hi lo' hi' _ (HR0.out.get 7 rfl) (HR0.out.get 4 rfl) (HR0.out.le 7 rfl) (HR0.out.le 4 rfl) ft0 gt0).mono ?_
 rintro e0 w0 ⟨rfl, hb0⟩
 have HR1 := Lib.hid (HR0.out.below hb0)
 clear hb0 HR0  
 by_cases hne : X0 = Y0
 rotate_left
 ·rw [same_f hne]
  have HF := nf (fun X : TySites => X.1) HANS hne
  clear hne
  go_wp2_with fail
  go_ret
  exact ⟨by rw [HF.out]; rfl, HR1.out.1⟩
 rw [same_t hne]
 subst hne
 go_wp2_with (first | fail | (refine wlg w.heap.size 37 u1 (HG.out _ _ _ (HR1.out.get 1 rfl)).2.1 Tryz.underlying103 HZ1.out ?_) | (refine wlg (w.heap.size + 1) 37 v1 (HH.out _ _ _ (HR1.out.get 0 rfl)).2.1 Tryz.underlying103 HY1.out ?_))
 refine (iSameReplica_o X1 Y1 u1 v1 lo hi lo' hi' _ (HR1.out.get 6 rfl) (HR1.out.get 3 rfl) (HR1.out.le 6 rfl) (HR1.out.le 3 rfl) ft1 gt1).mono ?_
 rintro e1 w1 ⟨rfl, hb1⟩
 have HR2 := Lib.hid (HR1.out.below hb1)
 clear hb1 HR1  
 by_cases hne : X1 = Y1
 rotate_left
 ·rw [same_f hne]
  have HF := nf (fun X : TySites => X.2.1) HANS hne
  clear hne
  go_wp2_with fail
  go_ret
  exact ⟨by rw [HF.out]; rfl, HR2.out.1⟩
 rw [same_t hne]
 subst hne
 have f2 := (HG.out _ _ _ (HR2.out.get 1 rfl)).2.2.1
 have g2 := (HH.out _ _ _ (HR2.out.get 0 rfl)).2.2.1
 go_wp2_with fail
 refine (eqlStr A2 B2 c2 d2 x2 y2 lo hi lo' hi' _ (HR2.out.get 5 rfl) (HR2.out.get 2 rfl) (HR2.out.le 5 rfl) (HR2.out.le 2 rfl) ft2.1 gt2.1).mono ?_
 rintro e2 w2 ⟨rfl, hb2⟩
 have HR3 := Lib.hid (HR2.out.below hb2)
 clear hb2 HR2  f2 g2
 by_cases hne : x2 = y2
 rotate_left
 ·rw [same_f hne]
  have HF := nf (fun X : TySites => X.2.2.1) HANS hne
  clear hne
  go_wp2_with fail
  go_ret
  exact ⟨by rw [HF.out]; rfl, HR3.out.1⟩
 rw [same_t hne]
 subst hne
 have f3 := (HG.out _ _ _ (HR3.out.get 1 rfl)).2.2.2
 have g3 := (HH.out _ _ _ (HR3.out.get 0 rfl)).2.2.2
 by_cases hne : x3 = y3
 rotate_left
 ·have HF := nf (fun X : TySites => X.2.2.2) HANS hne
  have hq : (x3 == y3) = false := beq_eq_false_iff_ne.2 hne
  clear hne
  go_wp2_with fail
  go_ret
  exact ⟨by rw [HF.out]; rfl, HR3.out.1⟩
 subst hne
 have HT := Lib.hid (HANS.out.trans (same_t rfl))
 go_wp2_with fail
 go_ret
 exact ⟨by rw [HT.out]; rfl, HR3.out.1⟩
theorem sSameSites_o : SmS shSites 11 := by
 intro X Y vs us lo hi lo' hi' w h h' hhi hhi' hf hf'
 obtain ⟨ANS, hANS⟩ : ∃ b, b = sameB X Y := ⟨_, rfl⟩
 rw [← hANS]
 obtain ⟨X0, X1, x2, x3⟩ := X
 obtain ⟨Y0, Y1, y2, y3⟩ := Y
 obtain ⟨ft0, ft1, ft2, ft3⟩ := hf
 obtain ⟨gt0, gt1, gt2, gt3⟩ := hf'
 have HANS := Lib.hid hANS; clear hANS
 obtain ⟨u0, ru0, eu0, k0, u1, ru1, eu1, k1, u2, ru2, eu2, k2, k3⟩ := h
 generalize ru2 = u3 at *
 have qk2 := k2; obtain ⟨A2, c2, rfl, _⟩ := qk2
 obtain rfl := (show u3 = [.int .i64 x3] from k3)
 have HG := Lib.hid (show ∀ (W : World) (b : Nat) (t : TypeId), Blk W b t vs.toArray → W.rangeAt b 0 u0 ∧ W.rangeAt b 37 u1 ∧ W.cell? ⟨b, 40, none⟩ = some (.slice A2 x2.length c2) ∧ W.cell? ⟨b, 41, none⟩ = some (.int .i64 x3) from fun W b t hB => by
  have q := blk_all hB
  obtain ⟨p0, q⟩ := rsp eu0 (shSite.R_len k0) q
  obtain ⟨p1, q⟩ := rsp eu1 (shReplica.R_len k1) q
  obtain ⟨p2, q⟩ := rsp eu2 rfl q
  exact ⟨p0, p1, rng_one p2, rng_one q⟩)
 clear eu0 eu1 eu2
 obtain ⟨v0, rv0, ev0, l0, v1, rv1, ev1, l1, v2, rv2, ev2, l2, l3⟩ := h'
 generalize rv2 = v3 at *
 have ql2 := l2; obtain ⟨B2, d2, rfl, _⟩ := ql2
 obtain rfl := (show v3 = [.int .i64 y3] from l3)
 have HH := Lib.hid (show ∀ (W : World) (b : Nat) (t : TypeId), Blk W b t us.toArray → W.rangeAt b 0 v0 ∧ W.rangeAt b 37 v1 ∧ W.cell? ⟨b, 40, none⟩ = some (.slice B2 y2.length d2) ∧ W.cell? ⟨b, 41, none⟩ = some (.int .i64 y3) from fun W b t hB => by
  have q := blk_all hB
  obtain ⟨p0, q⟩ := rsp ev0 (shSite.R_len l0) q
  obtain ⟨p1, q⟩ := rsp ev1 (shReplica.R_len l1) q
  obtain ⟨p2, q⟩ := rsp ev2 rfl q
  exact ⟨p0, p1, rng_one p2, rng_one q⟩)
 clear ev0 ev1 ev2
 have R0 := (((((((((Stand.nil w).ad shSite.R u0 X0 hhi k0 shSite.R_keep).ad shReplica.R u1 X1 hhi k1 shReplica.R_keep).ad (Sh.row 9 shS).R [.slice A2 x2.length c2] x2 hhi k2 (Sh.row 9 shS).R_keep).ad shSite.R v0 Y0 hhi' l0 shSite.R_keep).ad shReplica.R v1 Y1 hhi' l1 shReplica.R_keep).ad (Sh.row 9 shS).R [.slice B2 y2.length d2] y2 hhi' l2 (Sh.row 9 shS).R_keep).box 105 vs.toArray).box 105 us.toArray)
 rw [heap_alloc_size1] at R0
 have HR0 := Lib.hid R0
 have HZ0 := slH sizeISite k0
 have HY0 := slH sizeISite l0
 have HZ1 := slH sizeIReplica k1
 have HY1 := slH sizeIReplica l1
 clear R0 k0 l0 k1 l1 k2 l2
 go_enter Tryz.func11, Tryz.ntmps11
 go_wp2_with (first | fail | (refine wlg w.heap.size 0 u0 (HG.out _ _ _ (HR0.out.get 1 rfl)).1 Tryz.underlying91 HZ0.out ?_) | (refine wlg (w.heap.size + 1) 0 v0 (HH.out _ _ _ (HR0.out.get 0 rfl)).1 Tryz.underlying91 HY0.out ?_))
 refine (sSameSite_o X0 Y0 u0 v0 lo hi lo' hi' _ (HR0.out.get 7 rfl) (HR0.out.get 4 rfl) (HR0.out.le 7 rfl) (HR0.out.le 4 rfl) ft0 gt0).mono ?_
 rintro e0 w0 ⟨rfl, hb0⟩
 have HR1 := Lib.hid (HR0.out.below hb0)
 clear hb0 HR0  
 by_cases hne : X0 = Y0
 rotate_left
 ·rw [same_f hne]
  have HF := nf (fun X : TySites => X.1) HANS hne
  clear hne
  go_wp2_with fail
  go_ret
  exact ⟨by rw [HF.out]; rfl, HR1.out.1⟩
 rw [same_t hne]
 subst hne
 go_wp2_with (first | fail | (refine wlg w.heap.size 37 u1 (HG.out _ _ _ (HR1.out.get 1 rfl)).2.1 Tryz.underlying103 HZ1.out ?_) | (refine wlg (w.heap.size + 1) 37 v1 (HH.out _ _ _ (HR1.out.get 0 rfl)).2.1 Tryz.underlying103 HY1.out ?_))
 refine (sSameReplica_o X1 Y1 u1 v1 lo hi lo' hi' _ (HR1.out.get 6 rfl) (HR1.out.get 3 rfl) (HR1.out.le 6 rfl) (HR1.out.le 3 rfl) ft1 gt1).mono ?_
 rintro e1 w1 ⟨rfl, hb1⟩
 have HR2 := Lib.hid (HR1.out.below hb1)
 clear hb1 HR1  
 by_cases hne : X1 = Y1
 rotate_left
 ·rw [same_f hne]
  have HF := nf (fun X : TySites => X.2.1) HANS hne
  clear hne
  go_wp2_with fail
  go_ret
  exact ⟨by rw [HF.out]; rfl, HR2.out.1⟩
 rw [same_t hne]
 subst hne
 have f2 := (HG.out _ _ _ (HR2.out.get 1 rfl)).2.2.1
 have g2 := (HH.out _ _ _ (HR2.out.get 0 rfl)).2.2.1
 go_wp2_with fail
 refine (sameSubs_r A2 B2 c2 d2 x2 y2 lo hi lo' hi' _ (HR2.out.get 5 rfl) (HR2.out.get 2 rfl) (HR2.out.le 5 rfl) (HR2.out.le 2 rfl) ft2.1 gt2.1).mono ?_
 rintro e2 w2 ⟨rfl, hb2⟩
 have HR3 := Lib.hid (HR2.out.below hb2)
 clear hb2 HR2  f2 g2
 by_cases hne : x2 = y2
 rotate_left
 ·rw [same_f hne]
  have HF := nf (fun X : TySites => X.2.2.1) HANS hne
  clear hne
  go_wp2_with fail
  go_ret
  exact ⟨by rw [HF.out]; rfl, HR3.out.1⟩
 rw [same_t hne]
 subst hne
 have f3 := (HG.out _ _ _ (HR3.out.get 1 rfl)).2.2.2
 have g3 := (HH.out _ _ _ (HR3.out.get 0 rfl)).2.2.2
 by_cases hne : x3 = y3
 rotate_left
 ·have HF := nf (fun X : TySites => X.2.2.2) HANS hne
  have hq : (x3 == y3) = false := beq_eq_false_iff_ne.2 hne
  clear hne
  go_wp2_with fail
  go_ret
  exact ⟨by rw [HF.out]; rfl, HR3.out.1⟩
 subst hne
 have HT := Lib.hid (HANS.out.trans (same_t rfl))
 go_wp2_with fail
 go_ret
 exact ⟨by rw [HT.out]; rfl, HR3.out.1⟩
end Go.Proofs.YtgnmollbnopigaaGreat
/- Sites: walks field by field (to). Printed by gen_big.py. -/
namespace Go.Proofs.YtgnmollbnopigaaGreat
open Go.RowKit
theorem toSites_o (X : TySites) (vs : List Value) (lo hi : Nat) (w : World) (h : shSites.R w lo hi vs X) (hhi : hi ≤ w.heap.size) (hf : shSites.fit 1048576 X) :
  Calls Tryz.prog 12 #[.agg vs.toArray] w fun e w' => ∃ us : List Value, e = .returned (.agg us.toArray) ∧ shSites.R w' w.heap.size w'.heap.size us X ∧ Below w.heap.size w w' := by
 obtain ⟨X0, X1, x2, x3⟩ := X
 obtain ⟨ft0, ft1, ft2, ft3⟩ := hf
 obtain ⟨u0, ru0, eu0, k0, u1, ru1, eu1, k1, u2, ru2, eu2, k2, k3⟩ := h
 generalize ru2 = u3 at *
 have qk2 := k2; obtain ⟨A2, c2, rfl, _⟩ := qk2
 obtain rfl := (show u3 = [.int .i64 x3] from k3)
 have HG := Lib.hid (show ∀ (W : World) (b : Nat) (t : TypeId), Blk W b t vs.toArray → W.rangeAt b 0 u0 ∧ W.rangeAt b 37 u1 ∧ W.cell? ⟨b, 40, none⟩ = some (.slice A2 x2.length c2) ∧ W.cell? ⟨b, 41, none⟩ = some (.int .i64 x3) from fun W b t hB => by
  have q := blk_all hB
  obtain ⟨p0, q⟩ := rsp eu0 (shSite.R_len k0) q
  obtain ⟨p1, q⟩ := rsp eu1 (shReplica.R_len k1) q
  obtain ⟨p2, q⟩ := rsp eu2 rfl q
  exact ⟨p0, p1, rng_one p2, rng_one q⟩)
 clear eu0 eu1 eu2
 have R0 := (((((((Stand.nil w).ad shSite.R u0 X0 hhi k0 shSite.R_keep).ad shReplica.R u1 X1 hhi k1 shReplica.R_keep).ad (Sh.row 9 shS).R [.slice A2 x2.length c2] x2 hhi k2 (Sh.row 9 shS).R_keep).box 98 vs.toArray).box 105 zz19).alloc (.cells zz19 105))
 rw [heap_alloc_size1] at R0
 have HR0 := Lib.hid R0
 have HY0 := Lib.hid (show Blk (((w.alloc (.cells vs.toArray 98)).alloc (.cells zz19 105)).alloc (.cells zz19 105)) (w.heap.size + 1 + 1) 105 ([] ++ (((([.int .i64 0, .slice none 0 0, .slice none 0 0, .slice none 0 0, .slice none 0 0, .slice none 0 0, .slice none 0 0, .slice none 0 0, .int .i64 0, .slice none 0 0, .int .i64 0, .slice none 0 0, .int .i64 0, .slice none 0 0, .slice none 0 0, .int .i64 0, .int .i64 0, .int .i64 0, .slice none 0 0, .int .i64 0, .int .i64 0, .int .i64 0, .slice none 0 0, .slice none 0 0, .slice none 0 0, .int .i64 0, .slice none 0 0, .slice none 0 0, .int .i64 0, .int .i64 0, .int .i64 0, .int .i64 0] : List Value) ++ ([.int .i64 0, .int .i64 0, .slice none 0 0, .int .i64 0, .slice none 0 0] : List Value)) ++ (([.slice none 0 0, .int .i64 0, .slice none 0 0] : List Value) ++ (([.slice none 0 0] : List Value) ++ (([.int .i64 0] : List Value) ++ ([] : List Value))))))).toArray from by
  have := Blk.new ((w.alloc (.cells vs.toArray 98)).alloc (.cells zz19 105)) 105 zz19
  rw [heap_alloc_size1, heap_alloc_size1] at this
  exact this)
 have HZ0 := slH sizeLSite k0
 have HZ1 := slH sizeLReplica k1
 have s0 : (w.heap.size + 1 + 1) + 1 ≤ (((w.alloc (.cells vs.toArray 98)).alloc (.cells zz19 105)).alloc (.cells zz19 105)).heap.size := by simp
 have hp0 : ([] : List Value).length = 0 := rfl
 clear R0 k0 k1 k2
 go_enter Tryz.func12, Tryz.ntmps12
 go_upto_region 2 with fail
 generalize (((w.alloc (.cells vs.toArray 98)).alloc (.cells zz19 105)).alloc (.cells zz19 105)) = W0 at *
 go_wp2_with (first | fail | (refine wlg w.heap.size 0 u0 (HG.out _ _ _ (HR0.out.get 1 rfl)).1 Tryz.underlying56 HZ0.out ?_))
 refine (toSite_o X0 u0 lo hi _ (HR0.out.get 4 rfl) (HR0.out.le 4 rfl) ft0).mono ?_
 rintro e0 w0 ⟨us0, rfl, ho0, hb0⟩
 have HQ := Lib.hid ((HR0.out.below hb0).add W0.heap.size w0.heap.size (fun W => shSite.R W W0.heap.size w0.heap.size us0 X0) (fun _ _ hk h => shSite.R_keep h hk) (Nat.le_refl _) ho0)
 have HV := Lib.hid (HY0.out.below hb0 (by omega))
 have hs0 := hb0.size
 have hlu : us0.length = 37 := shSite.R_len ho0
 have HTH := Lib.hid (there_mid (n := us0.toArray.size) HV.out hp0 (by rw [List.size_toArray, hlu]; rfl))
 have HSZ := saH sizeISite ho0
 have HON := Lib.hid (all_oneCell_toArray (shSite.R_one ho0))
 clear hb0 ho0 HR0 HY0
 go_upto_region 3 with (first | fail | (refine wpList_store_mid rfl _ _ _ rfl (w.heap.size + 1 + 1) 0 us0.toArray rfl rfl HTH.out HSZ.out HON.out ?_))
 have HR1 := Lib.hid (HQ.out.out (g := (w.heap.size + 1 + 1)) (setCells_out (w.heap.size + 1 + 1) us0 0 w0).1 (by omega) (by simp only [fa1, fa2, and_true]; omega))
 have HY1 := Lib.hid (blk_next (blk_put us0 _ _ _ w0 0 HV.out hp0 (by rw [hlu]; rfl)))
 have hp1 : (([] : List Value) ++ us0).length = 37 := by rw [List.length_append, hp0, hlu]
 clear HTH HSZ HON hlu
 have s1 : (w.heap.size + 1 + 1) + 1 ≤ (w0.setCells (w.heap.size + 1 + 1) 0 us0).heap.size := by rw [(setCells_out _ _ _ _).2]; omega
 have hz1 : w0.heap.size ≤ (w0.setCells (w.heap.size + 1 + 1) 0 us0).heap.size := by rw [(setCells_out _ _ _ _).2]; exact Nat.le_refl _
 clear HQ HV
 generalize w0.setCells (w.heap.size + 1 + 1) 0 us0 = W1 at *
 go_wp2_with (first | fail | (refine wlg w.heap.size 37 u1 (HG.out _ _ _ (HR1.out.get 2 rfl)).2.1 Tryz.underlying96 HZ1.out ?_))
 refine (toReplica_o X1 u1 lo hi _ (HR1.out.get 4 rfl) (HR1.out.le 4 rfl) ft1).mono ?_
 rintro e1 w1 ⟨us1, rfl, ho1, hb1⟩
 have HQ := Lib.hid ((HR1.out.below hb1).add W1.heap.size w1.heap.size (fun W => shReplica.R W W1.heap.size w1.heap.size us1 X1) (fun _ _ hk h => shReplica.R_keep h hk) (Nat.le_refl _) ho1)
 have HV := Lib.hid (HY1.out.below hb1 (by omega))
 have hs1 := hb1.size
 have hlu : us1.length = 3 := shReplica.R_len ho1
 have HTH := Lib.hid (there_mid (n := us1.toArray.size) HV.out hp1 (by rw [List.size_toArray, hlu]; rfl))
 have HSZ := saH sizeIReplica ho1
 have HON := Lib.hid (all_oneCell_toArray (shReplica.R_one ho1))
 clear hb1 ho1 HR1 HY1
 go_upto_region 4 with (first | fail | (refine wpList_store_mid rfl _ _ _ rfl (w.heap.size + 1 + 1) 37 us1.toArray rfl rfl HTH.out HSZ.out HON.out ?_))
 have HR2 := Lib.hid (HQ.out.out (g := (w.heap.size + 1 + 1)) (setCells_out (w.heap.size + 1 + 1) us1 37 w1).1 (by omega) (by simp only [fa1, fa2, and_true]; omega))
 have HY2 := Lib.hid (blk_next (blk_put us1 _ _ _ w1 37 HV.out hp1 (by rw [hlu]; rfl)))
 have hp2 : ((([] : List Value) ++ us0) ++ us1).length = 40 := by rw [List.length_append, hp1, hlu]
 clear HTH HSZ HON hlu
 have s2 : (w.heap.size + 1 + 1) + 1 ≤ (w1.setCells (w.heap.size + 1 + 1) 37 us1).heap.size := by rw [(setCells_out _ _ _ _).2]; omega
 have hz2 : w1.heap.size ≤ (w1.setCells (w.heap.size + 1 + 1) 37 us1).heap.size := by rw [(setCells_out _ _ _ _).2]; exact Nat.le_refl _
 clear HQ HV
 generalize w1.setCells (w.heap.size + 1 + 1) 37 us1 = W2 at *
 have fx := (HG.out _ _ _ (HR2.out.get 3 rfl)).2.2.1
 go_wp2_with fail
 clear fx
 refine (toStringS_f A2 c2 x2 lo hi _ (HR2.out.get 4 rfl) (HR2.out.le 4 rfl) ft2).mono ?_
 rintro e2 w2 ⟨B2, d2, rfl, ho2, hb2⟩
 have HQ := Lib.hid ((HR2.out.below hb2).add W2.heap.size w2.heap.size (fun W => (Sh.row 9 shS).R W W2.heap.size w2.heap.size ([.slice B2 x2.length d2] : List Value) x2) (fun _ _ hk h => (Sh.row 9 shS).R_keep h hk) (Nat.le_refl _) ho2.reads)
 have HV := Lib.hid (HY2.out.below hb2 (by omega))
 have hs2 := hb2.size
 have fy := blk_cell HV.out hp2; have zy := HV.out.frozen 40
 clear hb2 ho2 HR2 HY2
 go_upto_region 5 with fail
 clear fy zy
 have HR3 := Lib.hid (HQ.out.set1 (g := (w.heap.size + 1 + 1)) (o := 40) (.slice B2 x2.length d2) (by omega) (by simp only [fa1, fa2, and_true]; omega))
 have HY3 := Lib.hid (blk_next (blk_put1 HV.out hp2 (.slice B2 x2.length d2)))
 have hp3 : (((([] : List Value) ++ us0) ++ us1) ++ ([.slice B2 x2.length d2] : List Value)).length = 41 := by rw [List.length_append, hp2]; rfl
 have s3 : (w.heap.size + 1 + 1) + 1 ≤ (w2.setCell ⟨w.heap.size + 1 + 1, 40, none⟩ (.slice B2 x2.length d2)).heap.size := by simp [World.setCell]; omega
 have hz3 : w2.heap.size ≤ (w2.setCell ⟨w.heap.size + 1 + 1, 40, none⟩ (.slice B2 x2.length d2)).heap.size := by simp [World.setCell]
 clear HQ HV
 generalize w2.setCell ⟨w.heap.size + 1 + 1, 40, none⟩ (.slice B2 x2.length d2) = W3 at *
 have fx := (HG.out _ _ _ (HR3.out.get 4 rfl)).2.2.2
 have fy := blk_cell HY3.out hp3; have zy := HY3.out.frozen 41
 go_upto_region 6 with fail
 clear fx fy zy
 have HR4 := Lib.hid (HR3.out.set1 (g := (w.heap.size + 1 + 1)) (o := 41) (.int .i64 x3) (by omega) (by simp only [fa1, fa2, and_true]; omega))
 have HY4 := Lib.hid (blk_next (blk_put1 HY3.out hp3 (.int .i64 x3)))
 have s4 : (w.heap.size + 1 + 1) + 1 ≤ (W3.setCell ⟨w.heap.size + 1 + 1, 41, none⟩ (.int .i64 x3)).heap.size := by simp [World.setCell]; omega
 have hz4 : W3.heap.size ≤ (W3.setCell ⟨w.heap.size + 1 + 1, 41, none⟩ (.int .i64 x3)).heap.size := by simp [World.setCell]
 have hp4 : ((((([] : List Value) ++ us0) ++ us1) ++ ([.slice B2 x2.length d2] : List Value)) ++ ([.int .i64 x3] : List Value)).length = 42 := by rw [List.length_append, hp3]; rfl
 generalize W3.setCell ⟨w.heap.size + 1 + 1, 41, none⟩ (.int .i64 x3) = W4 at *
 have HRT := Lib.hid (show shSites.R W4 ((w.heap.size + 1 + 1) + 1) W4.heap.size ((us0 ++ (us1 ++ (([.slice B2 x2.length d2] : List Value) ++ ([.int .i64 x3] : List Value))))) (X0, X1, x2, x3) from ⟨_, _, rfl, (shSite.R_more (HR4.out.get 2 rfl) (by omega) (by omega)), ⟨_, _, rfl, (shReplica.R_more (HR4.out.get 1 rfl) (by omega) (by omega)), ⟨_, _, rfl, ((Sh.row 9 shS).R_more (HR4.out.get 0 rfl) (by omega) (by omega)), rfl⟩⟩⟩)
 have HYF := Lib.hid (show Blk W4 (w.heap.size + 1 + 1) 105 ((us0 ++ (us1 ++ (([.slice B2 x2.length d2] : List Value) ++ ([.int .i64 x3] : List Value))))).toArray from by have := HY4.out; simpa only [List.append_assoc, List.nil_append, List.append_nil] using this)
 have HLN : ((us0 ++ (us1 ++ (([.slice B2 x2.length d2] : List Value) ++ ([.int .i64 x3] : List Value))))).length = 42 := by have := hp4; simpa only [List.append_assoc, List.nil_append, List.append_nil] using this
 generalize ((us0 ++ (us1 ++ (([.slice B2 x2.length d2] : List Value) ++ ([.int .i64 x3] : List Value))))) = VT at *
 have HONE := Lib.hid (shSites.R_one HRT.out)
 have HSZ := Lib.hid (size_arr (P := Tryz.prog) sizeISites HRT.out)
 have HOL := Lib.hid (show (zz19 : Array Value).size = VT.toArray.size from Eq.trans (b := 42) rfl ((List.size_toArray ..).trans HLN).symm)
 have HRZ := Lib.hid (HR4.out.get 3 rfl)
 have HBE := Lib.hid HR4.out.1
 clear HR4 HY4 hp0 hp1 hp2 hp3 hp4
 refine wp_region_list ?_
 refine wpList_loadAll rfl 105 (.tmp 3) rfl (w.heap.size + 1 + 1) rfl HYF.out Tryz.underlying105 rfl HSZ.out ?_
 simp only [Go.Act.put, za, zb, zc]
 refine wpList_storeAll rfl 105 (.tmp 2) _ rfl (w.heap.size + 1) VT.toArray rfl rfl HRZ.out HSZ.out HOL.out HONE.out ?_
 intro wF hbF hoF hzF
 have HBF := Lib.hid hbF
 have HRF := Lib.hid (shSites.R_keep HRT.out (fun b q1 q2 => hoF.block b (by omega) (by simp; omega)))
 have HBB := Lib.hid (HBE.out.trans (hoF.below1 (by omega) (by omega)))
 clear hbF hoF HRT HYF HONE HRZ HBE HOL
 go_wp2_with fail
 refine bodyPost_ret (results_cell_row (P := Tryz.prog) rfl _ _ (w.heap.size + 1) 105 VT.toArray (0, 0) _ rfl HBF.out Tryz.underlying105 rfl HSZ.out) rfl ⟨VT, rfl, ?_, HBB.out⟩
 exact shSites.R_more HRF.out (by omega) (by omega)
end Go.Proofs.YtgnmollbnopigaaGreat
