/- The reference's BtreeOk walked. -/
import Derived.Test.YtnnabkldceklmaaGreatDoorJoinBTAp
import Derived.Test.YtnnabkldceklmaaGreatDoorJoinBTBg
import Derived.Test.YtnnabkldceklmaaGreatDoorJoinBTBi
namespace Go.Proofs.YtnnabkldceklmaaGreatDoor
open Go.RowKit
theorem rng4 {W : World} {b o : Nat} {u0 u1 u2 u3 : Value} (h0 : W.cell? ⟨b, o, none⟩ = some u0) (h1 : W.cell? ⟨b, o + 1, none⟩ = some u1) (h2 : W.cell? ⟨b, o + 2, none⟩ = some u2) (h3 : W.cell? ⟨b, o + 3, none⟩ = some u3) : W.rangeAt b o [u0, u1, u2, u3] := by
 intro j v hj
 match j, hj with
 | 0, hj => injection hj with hj; subst hj; exact h0
 | 1, hj => injection hj with hj; subst hj; exact h1
 | 2, hj => injection hj with hj; subst hj; exact h2
 | 3, hj => injection hj with hj; subst hj; exact h3
theorem slotB_eq (l : List TySlot) (k : Nat) : slotB l k = (inB (l.getD k (0, shPage.d)).1 1 64 && pageP (l.getD k (0, shPage.d)).2 && (decide (k = 0) || decide ((l.getD (k - 1) (0, shPage.d)).1 < (l.getD k (0, shPage.d)).1))) := rfl
theorem AnyT.mono {P : Program} {ops : Array Oper} {Q : Exit → Go.Act → World → Prop} {md : Region.Mode} {S S' : World → Prop} {z : Nat → Bool} (hS : ∀ w, S' w → S w) : ∀ (n : Nat) (listed : Array Bool) (a : Go.Act) (w : World), AnyT P md ops Q S' z n listed a w → AnyT P md ops Q S z n listed a w
 | 0, _, _, _, h => h
 | n + 1, _, _, _, h => ⟨h.1, fun i hi => wpOp_mono (fun a' w' h' => ⟨fun ht => hS _ (h'.1 ht), AnyT.mono hS n _ a' w' h'.2⟩) (h.2 i hi)⟩
set_option maxHeartbeats 16000000 in
set_option maxRecDepth 100000 in
theorem specBtreeOk_any (X1 : TyBtree) (vs : List Value) (lo hi : Nat) (w : World) (h : shBtree.R w lo hi vs X1) (hhi : hi ≤ w.heap.size) (hf : shBtree.fit 1048576 X1) :
  Calls Tryz.prog 38 #[.agg vs.toArray] w fun e w' => e = .returned (.bool (btreeP X1)) ∧ Below w.heap.size w w' := by
 obtain ⟨root, l⟩ := X1
 obtain ⟨A, c, rfl, _⟩ := shBtree_R.1 h
 obtain ⟨_, hnl, hfl⟩ := hf
 dsimp only at hnl hfl
 have HFL := hd_ hfl
 have HIN := hd_ (fun a lo hi W => l00InP_any a lo hi W)
 obtain ⟨ANS, hANS⟩ : ∃ b, b = btreeP (root, l) := ⟨_, rfl⟩
 rw [← hANS]
 unfold btreeP at hANS
 dsimp only at hANS
 have HANS := hd_ hANS
 have hb0 := (Below.refl w.heap.size w).alloc (Nat.le_refl _) (.cells #[.int .i64 root, .slice A l.length c] 50)
 have HR := hd_ ((Sh.row 85 shSlot).R_below (shBtree_f1 h) hb0 hhi)
 have HB0 := hd_ hb0
 have HBK := hd_ (Blk.new w 50 #[.int .i64 root, .slice A l.length c])
 have hz0 : (w.alloc (.cells #[.int .i64 root, .slice A l.length c] 50)).heap.size = w.heap.size + 1 := by simp
 clear h hb0 hfl hANS
 go_enter Tryz.func38, Tryz.ntmps38
 go_upto_region 1 with fail
 generalize (w.alloc (.cells #[.int .i64 root, .slice A l.length c] 50)) = w1 at *
 have HF := hd_ (show ∀ W, Below w1.heap.size w1 W → W.cell? ⟨w.heap.size, 0, none⟩ = some (.int .i64 root) ∧ W.cell? ⟨w.heap.size, 1, none⟩ = some (.slice A l.length c) from fun W hW => by
  have hc := (HBK.out.below hW (by omega)).cell
  exact ⟨hc 0, hc 1⟩)
 obtain ⟨f0, f1⟩ := HF.out w1 (Below.refl _ _)
 clear HBK
 by_cases h64 : l.length ≤ 64
 rotate_left
 ·have i1 : (64 : Int) < (l.length : Int) := by omega
  have HA := hd_ (show ANS = false by
   rw [HANS.out]
   cases hs : slotsTo l l.length with
   | false => rfl
   | true => exact absurd (slots_few hs) h64)
  clear h64
  go_wp2_with fail
  go_ret
  exact ⟨by rw [HA.out]; rfl, HB0.out⟩
 have i64 : ¬ (64 : Int) < (l.length : Int) := by omega
 go_wp2_with fail
 clear f0 f1
 go_loopw [3] (fun i wr => ∃ k : Nat, k ≤ l.length ∧ i = .int .i64 k ∧ Hid (slotsTo l k = true) ∧ Below w1.heap.size w1 wr) (fun i _ => l.length - (intOf i).toNat)
 case atStart => exact ⟨0, Nat.zero_le _, rfl, hd_ rfl, Below.refl _ _⟩
 case round =>
  obtain ⟨k, hk, rfl, hkt, hb⟩ := hrel
  have hsz := hb.size
  have HB := hd_ hb
  obtain ⟨f0, f1⟩ := HF.out wr hb
  by_cases hlt : k < l.length
  ·have hr := (Sh.row 85 shSlot).R_below HR.out hb (by omega)
   obtain ⟨-, b', off', rfl, hb1', hb2', A2, c2, A3, c3, A4, c4, e0, e1, e2, e3, e4, hX⟩ := shSlot_at hr hlt
   have hprev : ∀ j, j < l.length → wr.cell? ⟨b', off' + j * 5, none⟩ = some (.int .i64 (l.getD j shSlot.d).1) := fun j hj => by
    obtain ⟨-, b2, o2, e, _, _, _, _, _, _, _, _, d0, _⟩ := shSlot_at hr hj
    injection e with e; injection e with e1 e2 e3; subst e1 e2
    exact d0
   have HAT := hd_ (slotB_eq l k)
   have HNX := hd_ (slotsTo_next l k)
   have HM := hd_ (fun (h : slotB l k = false) => show ANS = false from by
    rw [HANS.out]
    have : slotsTo l l.length = false := by
     rw [Bool.eq_false_iff]; intro h2; rw [slotsTo_at h2 hlt] at h; cases h
    rw [this]; rfl)
   have hdd : ((0, shPage.d) : TySlot) = shSlot.d := rfl
   rw [hdd] at HAT
   have hfx := HFL.out _ (getD_in (d := shSlot.d) hlt)
   replace hprev := hprev (k - 1) (by omega)
   generalize l.getD (k - 1) shSlot.d = Z at *
   generalize l.getD k shSlot.d = X at *
   obtain ⟨y, p0, p1, p2, p3⟩ := X
   obtain ⟨z0, zp⟩ := Z
   dsimp only at e0 e1 e2 e3 e4 hX hfx hprev HAT
   have HPV0 := hd_ hprev
   have HX := hd_ hX
   have i1 : (k : Int) < (l.length : Int) := by omega
   clear hb hr hX hprev hdd
   have hBE5 := (Below.refl wr.heap.size wr).alloc (Nat.le_refl _) (.cells #[.int .i64 y, .bool p0, .slice A2 p1.length c2, .slice A3 p2.length c3, .slice A4 p3.length c4] 85)
   have hs5 : wr.heap.size < (wr.alloc (.cells #[.int .i64 y, .bool p0, .slice A2 p1.length c2, .slice A3 p2.length c3, .slice A4 p3.length c4] 85)).heap.size := by simp
   have hb5 := Blk.new wr 85 #[.int .i64 y, .bool p0, .slice A2 p1.length c2, .slice A3 p2.length c3, .slice A4 p3.length c4]
   go_upto_region 7 with fail
   generalize (wr.alloc (.cells #[.int .i64 y, .bool p0, .slice A2 p1.length c2, .slice A3 p2.length c3, .slice A4 p3.length c4] 85)) = w5 at *
   have HBW5 := hd_ (show Below w.heap.size w w5 from HB0.out.trans ((HB.out.trans (hBE5.mono hsz)).mono (by omega)))
   have HPR := hd_ (shPage.R_below (shSlot_f1 HX.out) hBE5 (by omega))
   have HPO := hd_ (fun W h1 h2 => specPageOk_any (p0, p1, p2, p3) [.bool p0, .slice A2 p1.length c2, .slice A3 p2.length c3, .slice A4 p3.length c4] lo hi W h1 h2 hfx.2)
   have HPV := hd_ (show 0 < k → ∀ W, Below w5.heap.size w5 W → W.cell? ⟨b', off' + (k - 1) * 5, none⟩ = some (.int .i64 z0) from fun _ W hW => by
    refine (hW.cell (p := ⟨b', off' + (k - 1) * 5, none⟩) (by dsimp only; omega)).trans ((hBE5.cell (p := ⟨b', off' + (k - 1) * 5, none⟩) (by dsimp only; omega)).trans HPV0.out))
   obtain ⟨sb, hsb⟩ : ∃ sb, sb = wr.heap.size := ⟨_, rfl⟩
   rw [← hsb] at hb5 hs5
   have HC5 := hd_ (show ∀ W, Below w5.heap.size w5 W → W.cell? ⟨w.heap.size, 1, none⟩ = some (.slice (some ⟨b', off', none⟩) l.length c) ∧ W.cell? ⟨sb, 0, none⟩ = some (.int .i64 y) ∧ W.cell? ⟨sb, 1, none⟩ = some (.bool p0) ∧ W.cell? ⟨sb, 2, none⟩ = some (.slice A2 p1.length c2) ∧ W.cell? ⟨sb, 3, none⟩ = some (.slice A3 p2.length c3) ∧ W.cell? ⟨sb, 4, none⟩ = some (.slice A4 p3.length c4) from fun W hW => by
    have hc := (hb5.below hW hs5).cell
    exact ⟨(HF.out W (((HB.out.trans (hBE5.mono hsz)).trans (hW.mono (by omega))))).2, hc 0, hc 1, hc 2, hc 3, hc 4⟩)
   have HRes : Hid (Below w1.heap.size w1 w5) := hd_ (HB.out.trans (hBE5.mono hsz))
   rw [← hsb]
   clear HPV0 HX e0 e1 e2 e3 e4 f0 f1 hb5 hBE5 hsb
   have hw5 : w1.heap.size ≤ w5.heap.size := HRes.out.size
   by_cases hq1 : inB y 1 64 = true
   rotate_left
   ·have hq1 := Bool.eq_false_iff.2 hq1
    have HF := hd_ (HM.out (by rw [HAT.out, hq1]; rfl))
    go_upto_region 7 with fail
    have HBD := hd_ (show Below w.heap.size w w5.drew from HBW5.out.drew)
    refine AnyT.region (fun _ => false) (fun W => W.cell? ⟨w.heap.size, 1, none⟩ = some (.slice (some ⟨b', off', none⟩) l.length c) ∧ W.cell? ⟨sb, 0, none⟩ = some (.int .i64 y) ∧ W.cell? ⟨sb, 1, none⟩ = some (.bool p0) ∧ W.cell? ⟨sb, 2, none⟩ = some (.slice A2 p1.length c2) ∧ W.cell? ⟨sb, 3, none⟩ = some (.slice A3 p2.length c3) ∧ W.cell? ⟨sb, 4, none⟩ = some (.slice A4 p3.length c4) ∧ True) (by kernel_rfl) ⟨(HC5.out _ (below_drewN' w5 1)).1, (HC5.out _ (below_drewN' w5 1)).2.1, (HC5.out _ (below_drewN' w5 1)).2.2.1, (HC5.out _ (below_drewN' w5 1)).2.2.2.1, (HC5.out _ (below_drewN' w5 1)).2.2.2.2.1, (HC5.out _ (below_drewN' w5 1)).2.2.2.2.2, trivial⟩ (fun hHeld => ?_)
    clear HC5 HPV
    generalize w5.drew = wD at *
    (refine tA 0 22 ?_; simp only [pz])
    (refine tK 1 23 ?_; simp only [pz])
    refine oNe 2 fun K hK => ?_
    go_simp
    refine (HIN.out _ _ _ _).mono ?_; rintro e1 w1 ⟨rfl, rfl⟩
    go_simp
    (try rw [hq1])
    refine hK.out _ _ (by assumption) (fun hHeld => ?_)
    clear hK K
    (try simp only [pz])
    (refine tA 3 25 ?_; simp only [pz])
    (refine tA 4 26 ?_; simp only [pz])
    (refine sK 5 27 ?_; simp only [pz])
    (refine sK 6 28 ?_; simp only [pz])
    (refine sK 7 29 ?_; simp only [pz])
    (refine sK 8 30 ?_; simp only [pz])
    (refine sK 9 31 ?_; simp only [pz])
    (refine sK 10 32 ?_; simp only [pz])
    (refine sK 11 33 ?_; simp only [pz])
    (refine sK 12 34 ?_; simp only [pz])
    (refine sK 13 35 ?_; simp only [pz])
    (refine sK 14 36 ?_; simp only [pz])
    (refine sK 15 37 ?_; simp only [pz])
    (refine sK 16 38 ?_; simp only [pz])
    (refine sK 17 39 ?_; simp only [pz])
    (refine sK 18 40 ?_; simp only [pz])
    (refine tA 19 41 ?_; simp only [pz])
    (refine tA 20 42 ?_; simp only [pz])
    (refine sK 21 43 ?_; simp only [pz])
    (refine sK 22 44 ?_; simp only [pz])
    (refine sK 23 45 ?_; simp only [pz])
    (refine sK 24 46 ?_; simp only [pz])
    (refine tA 25 47 ?_; simp only [pz])
    refine AnyT.done (by kernel_rfl) ?_ _
    clear hHeld
    go_wp2_with fail
    go_ret
    exact ⟨by rw [HF.out]; rfl, HBD.out⟩
   have htail : k = 0 ∨ (0 < k ∧ ¬ z0 < y) ∨ (0 < k ∧ z0 < y) := by omega
   rcases htail with h00 | ⟨hk0, hlt0⟩ | ⟨hk0, hlt0⟩
   ·have i0 : ¬ (0 : Int) < (k : Int) := by omega
    have k8 : decide ((0 : Int) < (k : Int)) = false := by rw [decide_eq_false_iff_not]; omega
    have k9 : decide (0 < k) = false := by rw [decide_eq_false_iff_not]; omega
    have H00 := hd_ h00; clear h00
    by_cases hpp : pageP (p0, p1, p2, p3) = true
    ·have HOK := hd_ (show slotsTo l (k + 1) = true by rw [HNX.out, hkt.out, HAT.out, hq1, hpp]; rw [decide_eq_true H00.out]; rfl)
     go_upto_region 7 with fail
     have HKP := hd_ (show ∀ W, Below w5.drew.heap.size w5.drew W → (fun W => W.cell? ⟨w.heap.size, 1, none⟩ = some (.slice (some ⟨b', off', none⟩) l.length c) ∧ W.cell? ⟨sb, 0, none⟩ = some (.int .i64 y) ∧ W.cell? ⟨sb, 1, none⟩ = some (.bool p0) ∧ W.cell? ⟨sb, 2, none⟩ = some (.slice A2 p1.length c2) ∧ W.cell? ⟨sb, 3, none⟩ = some (.slice A3 p2.length c3) ∧ W.cell? ⟨sb, 4, none⟩ = some (.slice A4 p3.length c4) ∧ True) W from fun W hW => (fun hB => ⟨(HC5.out _ hB).1, (HC5.out _ hB).2.1, (HC5.out _ hB).2.2.1, (HC5.out _ hB).2.2.2.1, (HC5.out _ hB).2.2.2.2.1, (HC5.out _ hB).2.2.2.2.2, trivial⟩) ((below_drewN' w5 1).trans hW))
     have HRP := hd_ (show shPage.R w5.drew lo hi [.bool p0, .slice A2 p1.length c2, .slice A3 p2.length c3, .slice A4 p3.length c4] (p0, p1, p2, p3) from shPage.R_below HPR.out (below_drewN' w5 1) (by omega))
     have HBN := hd_ (show ∀ W, Below w5.drew.heap.size w5.drew W → Below w1.heap.size w1 W from fun W hW => HRes.out.trans (((below_drewN' w5 1).trans hW).mono hw5))
     have hszD : hi ≤ w5.drew.heap.size := by show hi ≤ w5.heap.size; omega
     have HBD := hd_ (show Below w.heap.size w w5.drew from HBW5.out.drew)
     refine AnyT.region (fun _ => false) (fun W => W.cell? ⟨w.heap.size, 1, none⟩ = some (.slice (some ⟨b', off', none⟩) l.length c) ∧ W.cell? ⟨sb, 0, none⟩ = some (.int .i64 y) ∧ W.cell? ⟨sb, 1, none⟩ = some (.bool p0) ∧ W.cell? ⟨sb, 2, none⟩ = some (.slice A2 p1.length c2) ∧ W.cell? ⟨sb, 3, none⟩ = some (.slice A3 p2.length c3) ∧ W.cell? ⟨sb, 4, none⟩ = some (.slice A4 p3.length c4) ∧ True) (by kernel_rfl) ⟨(HC5.out _ (below_drewN' w5 1)).1, (HC5.out _ (below_drewN' w5 1)).2.1, (HC5.out _ (below_drewN' w5 1)).2.2.1, (HC5.out _ (below_drewN' w5 1)).2.2.2.1, (HC5.out _ (below_drewN' w5 1)).2.2.2.2.1, (HC5.out _ (below_drewN' w5 1)).2.2.2.2.2, trivial⟩ (fun hHeld => ?_)
     have hsd : w.heap.size ≤ w5.drew.heap.size := HBD.out.size
     clear HC5 HPV
     generalize w5.drew = wD at *
     (refine tA 0 22 ?_; simp only [pz])
     (refine tK 1 23 ?_; simp only [pz])
     refine oNe 2 fun K hK => ?_
     go_simp
     refine (HIN.out _ _ _ _).mono ?_; rintro e1 w1 ⟨rfl, rfl⟩
     go_simp
     (try rw [hq1])
     refine hK.out _ _ (by assumption) (fun hHeld => ?_)
     clear hK K
     (try simp only [pz])
     (refine tA 3 25 ?_; simp only [pz])
     (refine tA 4 26 ?_; simp only [pz])
     (refine tA 5 27 ?_; simp only [pz])
     (refine tA 6 28 ?_; simp only [pz])
     (refine tA 7 29 ?_; simp only [pz])
     (refine sK 8 30 ?_; simp only [pz])
     (refine sK 9 31 ?_; simp only [pz])
     (refine sK 10 32 ?_; simp only [pz])
     (refine sK 11 33 ?_; simp only [pz])
     (refine sK 12 34 ?_; simp only [pz])
     (refine sK 13 35 ?_; simp only [pz])
     (refine sK 14 36 ?_; simp only [pz])
     (refine sK 15 37 ?_; simp only [pz])
     (refine sK 16 38 ?_; simp only [pz])
     (refine sK 17 39 ?_; simp only [pz])
     (refine tA 18 40 ?_; simp only [pz])
     (refine tA 19 41 ?_; simp only [pz])
     (refine tA 20 42 ?_; simp only [pz])
     (refine tA 21 43 ?_; simp only [pz])
     refine tX 22 44 (.agg #[.bool p0, .slice A2 p1.length c2, .slice A3 p2.length c3, .slice A4 p3.length c4]) (fun W hS => exec_loadMid _ _ rfl sb 1 rfl [.bool p0, .slice A2 p1.length c2, .slice A3 p2.length c3, .slice A4 p3.length c4] (rng4 hS.2.2.1 hS.2.2.2.1 hS.2.2.2.2.1 hS.2.2.2.2.2.1) Tryz.underlying83 rfl (by kernel_rfl)) ?_
     simp only [pz]
     refine oNe 23 fun K hK => ?_
     go_simp
     refine (HPO.out _ HRP.out hszD).mono ?_; rintro e2 w6 ⟨rfl, hb6⟩
     go_simp
     (try rw [hpp])
     have HB6 := hd_ hb6
     refine hK.out _ _ (HKP.out _ HB6.out) (fun hHeld => ?_)
     clear hK K hb6
     (try simp only [pz])
     (refine tA 24 46 ?_; simp only [pz])
     (refine tA 25 47 ?_; simp only [pz])
     refine AnyT.done (by kernel_rfl) ?_ _
     clear hHeld
     go_wp2_with fail
     go_roundw
     case rel => exact ⟨k + 1, by omega, by go_num, hd_ HOK.out, HBN.out _ HB6.out⟩
     case measure => simp [intOf]; omega
    ·have hpp := Bool.eq_false_iff.2 hpp
     have HF := hd_ (HM.out (by rw [HAT.out, hpp, Bool.and_false]; rfl))
     go_upto_region 7 with fail
     have HKP := hd_ (show ∀ W, Below w5.drew.heap.size w5.drew W → (fun W => W.cell? ⟨w.heap.size, 1, none⟩ = some (.slice (some ⟨b', off', none⟩) l.length c) ∧ W.cell? ⟨sb, 0, none⟩ = some (.int .i64 y) ∧ W.cell? ⟨sb, 1, none⟩ = some (.bool p0) ∧ W.cell? ⟨sb, 2, none⟩ = some (.slice A2 p1.length c2) ∧ W.cell? ⟨sb, 3, none⟩ = some (.slice A3 p2.length c3) ∧ W.cell? ⟨sb, 4, none⟩ = some (.slice A4 p3.length c4) ∧ True) W from fun W hW => (fun hB => ⟨(HC5.out _ hB).1, (HC5.out _ hB).2.1, (HC5.out _ hB).2.2.1, (HC5.out _ hB).2.2.2.1, (HC5.out _ hB).2.2.2.2.1, (HC5.out _ hB).2.2.2.2.2, trivial⟩) ((below_drewN' w5 1).trans hW))
     have HRP := hd_ (show shPage.R w5.drew lo hi [.bool p0, .slice A2 p1.length c2, .slice A3 p2.length c3, .slice A4 p3.length c4] (p0, p1, p2, p3) from shPage.R_below HPR.out (below_drewN' w5 1) (by omega))
     have HBN := hd_ (show ∀ W, Below w5.drew.heap.size w5.drew W → Below w1.heap.size w1 W from fun W hW => HRes.out.trans (((below_drewN' w5 1).trans hW).mono hw5))
     have hszD : hi ≤ w5.drew.heap.size := by show hi ≤ w5.heap.size; omega
     have HBD := hd_ (show Below w.heap.size w w5.drew from HBW5.out.drew)
     refine AnyT.region (fun _ => false) (fun W => W.cell? ⟨w.heap.size, 1, none⟩ = some (.slice (some ⟨b', off', none⟩) l.length c) ∧ W.cell? ⟨sb, 0, none⟩ = some (.int .i64 y) ∧ W.cell? ⟨sb, 1, none⟩ = some (.bool p0) ∧ W.cell? ⟨sb, 2, none⟩ = some (.slice A2 p1.length c2) ∧ W.cell? ⟨sb, 3, none⟩ = some (.slice A3 p2.length c3) ∧ W.cell? ⟨sb, 4, none⟩ = some (.slice A4 p3.length c4) ∧ True) (by kernel_rfl) ⟨(HC5.out _ (below_drewN' w5 1)).1, (HC5.out _ (below_drewN' w5 1)).2.1, (HC5.out _ (below_drewN' w5 1)).2.2.1, (HC5.out _ (below_drewN' w5 1)).2.2.2.1, (HC5.out _ (below_drewN' w5 1)).2.2.2.2.1, (HC5.out _ (below_drewN' w5 1)).2.2.2.2.2, trivial⟩ (fun hHeld => ?_)
     have hsd : w.heap.size ≤ w5.drew.heap.size := HBD.out.size
     clear HC5 HPV
     generalize w5.drew = wD at *
     (refine tA 0 22 ?_; simp only [pz])
     (refine tK 1 23 ?_; simp only [pz])
     refine oNe 2 fun K hK => ?_
     go_simp
     refine (HIN.out _ _ _ _).mono ?_; rintro e1 w1 ⟨rfl, rfl⟩
     go_simp
     (try rw [hq1])
     refine hK.out _ _ (by assumption) (fun hHeld => ?_)
     clear hK K
     (try simp only [pz])
     (refine tA 3 25 ?_; simp only [pz])
     (refine tA 4 26 ?_; simp only [pz])
     (refine tA 5 27 ?_; simp only [pz])
     (refine tA 6 28 ?_; simp only [pz])
     (refine tA 7 29 ?_; simp only [pz])
     (refine sK 8 30 ?_; simp only [pz])
     (refine sK 9 31 ?_; simp only [pz])
     (refine sK 10 32 ?_; simp only [pz])
     (refine sK 11 33 ?_; simp only [pz])
     (refine sK 12 34 ?_; simp only [pz])
     (refine sK 13 35 ?_; simp only [pz])
     (refine sK 14 36 ?_; simp only [pz])
     (refine sK 15 37 ?_; simp only [pz])
     (refine sK 16 38 ?_; simp only [pz])
     (refine sK 17 39 ?_; simp only [pz])
     (refine tA 18 40 ?_; simp only [pz])
     (refine tA 19 41 ?_; simp only [pz])
     (refine tA 20 42 ?_; simp only [pz])
     (refine tA 21 43 ?_; simp only [pz])
     refine tX 22 44 (.agg #[.bool p0, .slice A2 p1.length c2, .slice A3 p2.length c3, .slice A4 p3.length c4]) (fun W hS => exec_loadMid _ _ rfl sb 1 rfl [.bool p0, .slice A2 p1.length c2, .slice A3 p2.length c3, .slice A4 p3.length c4] (rng4 hS.2.2.1 hS.2.2.2.1 hS.2.2.2.2.1 hS.2.2.2.2.2.1) Tryz.underlying83 rfl (by kernel_rfl)) ?_
     simp only [pz]
     refine oNe 23 fun K hK => ?_
     go_simp
     refine (HPO.out _ HRP.out hszD).mono ?_; rintro e2 w6 ⟨rfl, hb6⟩
     go_simp
     (try rw [hpp])
     have HB6 := hd_ hb6
     refine hK.out _ _ (HKP.out _ HB6.out) (fun hHeld => ?_)
     clear hK K hb6
     (try simp only [pz])
     (refine tA 24 46 ?_; simp only [pz])
     (refine tA 25 47 ?_; simp only [pz])
     refine AnyT.done (by kernel_rfl) ?_ _
     clear hHeld
     go_wp2_with fail
     go_ret
     exact ⟨by rw [HF.out]; rfl, (HBD.out.trans (HB6.out.mono hsd))⟩
   ·have HF := hd_ (HM.out (by rw [HAT.out, decide_eq_false hlt0, decide_eq_false (by omega : ¬ k = 0)]; simp))
    have k1 : IntKind.i64.wrap ((k : Int) - 1) = (k : Int) - 1 := IntWalk.i64_in _ (by omega)
    have k2 : ((k : Int) - 1).toNat = k - 1 := by omega
    have k3 : (0 : Int) ≤ (k : Int) - 1 := by omega
    have k6 : 1 ≤ k := by omega
    have k7 : (1 : Int) ≤ (k : Int) := by omega
    have k8 : decide ((0 : Int) < (k : Int)) = true := by rw [decide_eq_true_iff]; omega
    have k9 : decide (0 < k) = true := by rw [decide_eq_true_iff]; omega
    have i0 : (0 : Int) < (k : Int) := by omega
    have k4 : (k : Int) - 1 < (l.length : Int) := by omega
    have k5 : y ≤ z0 := by omega
    go_upto_region 7 with fail
    have HBD := hd_ (show Below w.heap.size w w5.drew from HBW5.out.drew)
    refine AnyT.region (fun _ => false) (fun W => W.cell? ⟨w.heap.size, 1, none⟩ = some (.slice (some ⟨b', off', none⟩) l.length c) ∧ W.cell? ⟨sb, 0, none⟩ = some (.int .i64 y) ∧ W.cell? ⟨sb, 1, none⟩ = some (.bool p0) ∧ W.cell? ⟨sb, 2, none⟩ = some (.slice A2 p1.length c2) ∧ W.cell? ⟨sb, 3, none⟩ = some (.slice A3 p2.length c3) ∧ W.cell? ⟨sb, 4, none⟩ = some (.slice A4 p3.length c4) ∧ W.cell? ⟨b', off' + (k - 1) * 5, none⟩ = some (.int .i64 z0)) (by kernel_rfl) ⟨(HC5.out _ (below_drewN' w5 1)).1, (HC5.out _ (below_drewN' w5 1)).2.1, (HC5.out _ (below_drewN' w5 1)).2.2.1, (HC5.out _ (below_drewN' w5 1)).2.2.2.1, (HC5.out _ (below_drewN' w5 1)).2.2.2.2.1, (HC5.out _ (below_drewN' w5 1)).2.2.2.2.2, HPV.out hk0 _ (below_drewN' w5 1)⟩ (fun hHeld => ?_)
    clear HC5 HPV
    generalize w5.drew = wD at *
    (refine tA 0 22 ?_; simp only [pz])
    (refine tK 1 23 ?_; simp only [pz])
    refine oNe 2 fun K hK => ?_
    go_simp
    refine (HIN.out _ _ _ _).mono ?_; rintro e1 w1 ⟨rfl, rfl⟩
    go_simp
    (try rw [hq1])
    refine hK.out _ _ (by assumption) (fun hHeld => ?_)
    clear hK K
    (try simp only [pz])
    (refine tA 3 25 ?_; simp only [pz])
    (refine tA 4 26 ?_; simp only [pz])
    (refine tA 5 27 ?_; simp only [pz])
    (refine tA 6 28 ?_; simp only [pz])
    (refine tA 7 29 ?_; simp only [pz])
    (refine tA 8 30 ?_; simp only [pz])
    (refine tK 9 31 ?_; simp only [pz])
    (refine tA 10 32 ?_; simp only [pz])
    (refine tA 11 33 ?_; simp only [pz])
    (refine tA 12 34 ?_; simp only [pz])
    (refine tA 13 35 ?_; simp only [pz])
    (refine tK 14 36 ?_; simp only [pz])
    (refine tA 15 37 ?_; simp only [pz])
    (refine tK 16 38 ?_; simp only [pz])
    (refine tA 17 39 ?_; simp only [pz])
    (refine tA 18 40 ?_; simp only [pz])
    (refine tA 19 41 ?_; simp only [pz])
    (refine tA 20 42 ?_; simp only [pz])
    (refine sK 21 43 ?_; simp only [pz])
    (refine sK 22 44 ?_; simp only [pz])
    (refine sK 23 45 ?_; simp only [pz])
    (refine sK 24 46 ?_; simp only [pz])
    (refine tA 25 47 ?_; simp only [pz])
    refine AnyT.done (by kernel_rfl) ?_ _
    clear hHeld
    go_wp2_with fail
    go_ret
    exact ⟨by rw [HF.out]; rfl, HBD.out⟩
   ·have k5 : ¬ y ≤ z0 := by omega
    have k1 : IntKind.i64.wrap ((k : Int) - 1) = (k : Int) - 1 := IntWalk.i64_in _ (by omega)
    have k2 : ((k : Int) - 1).toNat = k - 1 := by omega
    have k3 : (0 : Int) ≤ (k : Int) - 1 := by omega
    have k6 : 1 ≤ k := by omega
    have k7 : (1 : Int) ≤ (k : Int) := by omega
    have k8 : decide ((0 : Int) < (k : Int)) = true := by rw [decide_eq_true_iff]; omega
    have k9 : decide (0 < k) = true := by rw [decide_eq_true_iff]; omega
    have i0 : (0 : Int) < (k : Int) := by omega
    have k4 : (k : Int) - 1 < (l.length : Int) := by omega
    by_cases hpp : pageP (p0, p1, p2, p3) = true
    ·have HOK := hd_ (show slotsTo l (k + 1) = true by rw [HNX.out, hkt.out, HAT.out, hq1, hpp]; rw [decide_eq_true hlt0]; simp)
     go_upto_region 7 with fail
     have HKP := hd_ (show ∀ W, Below w5.drew.heap.size w5.drew W → (fun W => W.cell? ⟨w.heap.size, 1, none⟩ = some (.slice (some ⟨b', off', none⟩) l.length c) ∧ W.cell? ⟨sb, 0, none⟩ = some (.int .i64 y) ∧ W.cell? ⟨sb, 1, none⟩ = some (.bool p0) ∧ W.cell? ⟨sb, 2, none⟩ = some (.slice A2 p1.length c2) ∧ W.cell? ⟨sb, 3, none⟩ = some (.slice A3 p2.length c3) ∧ W.cell? ⟨sb, 4, none⟩ = some (.slice A4 p3.length c4) ∧ W.cell? ⟨b', off' + (k - 1) * 5, none⟩ = some (.int .i64 z0)) W from fun W hW => (fun hB => ⟨(HC5.out _ hB).1, (HC5.out _ hB).2.1, (HC5.out _ hB).2.2.1, (HC5.out _ hB).2.2.2.1, (HC5.out _ hB).2.2.2.2.1, (HC5.out _ hB).2.2.2.2.2, HPV.out hk0 _ hB⟩) ((below_drewN' w5 1).trans hW))
     have HRP := hd_ (show shPage.R w5.drew lo hi [.bool p0, .slice A2 p1.length c2, .slice A3 p2.length c3, .slice A4 p3.length c4] (p0, p1, p2, p3) from shPage.R_below HPR.out (below_drewN' w5 1) (by omega))
     have HBN := hd_ (show ∀ W, Below w5.drew.heap.size w5.drew W → Below w1.heap.size w1 W from fun W hW => HRes.out.trans (((below_drewN' w5 1).trans hW).mono hw5))
     have hszD : hi ≤ w5.drew.heap.size := by show hi ≤ w5.heap.size; omega
     have HBD := hd_ (show Below w.heap.size w w5.drew from HBW5.out.drew)
     refine AnyT.region (fun _ => false) (fun W => W.cell? ⟨w.heap.size, 1, none⟩ = some (.slice (some ⟨b', off', none⟩) l.length c) ∧ W.cell? ⟨sb, 0, none⟩ = some (.int .i64 y) ∧ W.cell? ⟨sb, 1, none⟩ = some (.bool p0) ∧ W.cell? ⟨sb, 2, none⟩ = some (.slice A2 p1.length c2) ∧ W.cell? ⟨sb, 3, none⟩ = some (.slice A3 p2.length c3) ∧ W.cell? ⟨sb, 4, none⟩ = some (.slice A4 p3.length c4) ∧ W.cell? ⟨b', off' + (k - 1) * 5, none⟩ = some (.int .i64 z0)) (by kernel_rfl) ⟨(HC5.out _ (below_drewN' w5 1)).1, (HC5.out _ (below_drewN' w5 1)).2.1, (HC5.out _ (below_drewN' w5 1)).2.2.1, (HC5.out _ (below_drewN' w5 1)).2.2.2.1, (HC5.out _ (below_drewN' w5 1)).2.2.2.2.1, (HC5.out _ (below_drewN' w5 1)).2.2.2.2.2, HPV.out hk0 _ (below_drewN' w5 1)⟩ (fun hHeld => ?_)
     have hsd : w.heap.size ≤ w5.drew.heap.size := HBD.out.size
     clear HC5 HPV
     generalize w5.drew = wD at *
     (refine tA 0 22 ?_; simp only [pz])
     (refine tK 1 23 ?_; simp only [pz])
     refine oNe 2 fun K hK => ?_
     go_simp
     refine (HIN.out _ _ _ _).mono ?_; rintro e1 w1 ⟨rfl, rfl⟩
     go_simp
     (try rw [hq1])
     refine hK.out _ _ (by assumption) (fun hHeld => ?_)
     clear hK K
     (try simp only [pz])
     (refine tA 3 25 ?_; simp only [pz])
     (refine tA 4 26 ?_; simp only [pz])
     (refine tA 5 27 ?_; simp only [pz])
     (refine tA 6 28 ?_; simp only [pz])
     (refine tA 7 29 ?_; simp only [pz])
     (refine tA 8 30 ?_; simp only [pz])
     (refine tK 9 31 ?_; simp only [pz])
     (refine tA 10 32 ?_; simp only [pz])
     (refine tA 11 33 ?_; simp only [pz])
     (refine tA 12 34 ?_; simp only [pz])
     (refine tA 13 35 ?_; simp only [pz])
     (refine tK 14 36 ?_; simp only [pz])
     (refine tA 15 37 ?_; simp only [pz])
     (refine tK 16 38 ?_; simp only [pz])
     (refine tA 17 39 ?_; simp only [pz])
     (refine tA 18 40 ?_; simp only [pz])
     (refine tA 19 41 ?_; simp only [pz])
     (refine tA 20 42 ?_; simp only [pz])
     (refine tA 21 43 ?_; simp only [pz])
     refine tX 22 44 (.agg #[.bool p0, .slice A2 p1.length c2, .slice A3 p2.length c3, .slice A4 p3.length c4]) (fun W hS => exec_loadMid _ _ rfl sb 1 rfl [.bool p0, .slice A2 p1.length c2, .slice A3 p2.length c3, .slice A4 p3.length c4] (rng4 hS.2.2.1 hS.2.2.2.1 hS.2.2.2.2.1 hS.2.2.2.2.2.1) Tryz.underlying83 rfl (by kernel_rfl)) ?_
     simp only [pz]
     refine oNe 23 fun K hK => ?_
     go_simp
     refine (HPO.out _ HRP.out hszD).mono ?_; rintro e2 w6 ⟨rfl, hb6⟩
     go_simp
     (try rw [hpp])
     have HB6 := hd_ hb6
     refine hK.out _ _ (HKP.out _ HB6.out) (fun hHeld => ?_)
     clear hK K hb6
     (try simp only [pz])
     (refine tA 24 46 ?_; simp only [pz])
     (refine tA 25 47 ?_; simp only [pz])
     refine AnyT.done (by kernel_rfl) ?_ _
     clear hHeld
     go_wp2_with fail
     go_roundw
     case rel => exact ⟨k + 1, by omega, by go_num, hd_ HOK.out, HBN.out _ HB6.out⟩
     case measure => simp [intOf]; omega
    ·have hpp := Bool.eq_false_iff.2 hpp
     have HF := hd_ (HM.out (by rw [HAT.out, hpp, Bool.and_false]; rfl))
     go_upto_region 7 with fail
     have HKP := hd_ (show ∀ W, Below w5.drew.heap.size w5.drew W → (fun W => W.cell? ⟨w.heap.size, 1, none⟩ = some (.slice (some ⟨b', off', none⟩) l.length c) ∧ W.cell? ⟨sb, 0, none⟩ = some (.int .i64 y) ∧ W.cell? ⟨sb, 1, none⟩ = some (.bool p0) ∧ W.cell? ⟨sb, 2, none⟩ = some (.slice A2 p1.length c2) ∧ W.cell? ⟨sb, 3, none⟩ = some (.slice A3 p2.length c3) ∧ W.cell? ⟨sb, 4, none⟩ = some (.slice A4 p3.length c4) ∧ W.cell? ⟨b', off' + (k - 1) * 5, none⟩ = some (.int .i64 z0)) W from fun W hW => (fun hB => ⟨(HC5.out _ hB).1, (HC5.out _ hB).2.1, (HC5.out _ hB).2.2.1, (HC5.out _ hB).2.2.2.1, (HC5.out _ hB).2.2.2.2.1, (HC5.out _ hB).2.2.2.2.2, HPV.out hk0 _ hB⟩) ((below_drewN' w5 1).trans hW))
     have HRP := hd_ (show shPage.R w5.drew lo hi [.bool p0, .slice A2 p1.length c2, .slice A3 p2.length c3, .slice A4 p3.length c4] (p0, p1, p2, p3) from shPage.R_below HPR.out (below_drewN' w5 1) (by omega))
     have HBN := hd_ (show ∀ W, Below w5.drew.heap.size w5.drew W → Below w1.heap.size w1 W from fun W hW => HRes.out.trans (((below_drewN' w5 1).trans hW).mono hw5))
     have hszD : hi ≤ w5.drew.heap.size := by show hi ≤ w5.heap.size; omega
     have HBD := hd_ (show Below w.heap.size w w5.drew from HBW5.out.drew)
     refine AnyT.region (fun _ => false) (fun W => W.cell? ⟨w.heap.size, 1, none⟩ = some (.slice (some ⟨b', off', none⟩) l.length c) ∧ W.cell? ⟨sb, 0, none⟩ = some (.int .i64 y) ∧ W.cell? ⟨sb, 1, none⟩ = some (.bool p0) ∧ W.cell? ⟨sb, 2, none⟩ = some (.slice A2 p1.length c2) ∧ W.cell? ⟨sb, 3, none⟩ = some (.slice A3 p2.length c3) ∧ W.cell? ⟨sb, 4, none⟩ = some (.slice A4 p3.length c4) ∧ W.cell? ⟨b', off' + (k - 1) * 5, none⟩ = some (.int .i64 z0)) (by kernel_rfl) ⟨(HC5.out _ (below_drewN' w5 1)).1, (HC5.out _ (below_drewN' w5 1)).2.1, (HC5.out _ (below_drewN' w5 1)).2.2.1, (HC5.out _ (below_drewN' w5 1)).2.2.2.1, (HC5.out _ (below_drewN' w5 1)).2.2.2.2.1, (HC5.out _ (below_drewN' w5 1)).2.2.2.2.2, HPV.out hk0 _ (below_drewN' w5 1)⟩ (fun hHeld => ?_)
     have hsd : w.heap.size ≤ w5.drew.heap.size := HBD.out.size
     clear HC5 HPV
     generalize w5.drew = wD at *
     (refine tA 0 22 ?_; simp only [pz])
     (refine tK 1 23 ?_; simp only [pz])
     refine oNe 2 fun K hK => ?_
     go_simp
     refine (HIN.out _ _ _ _).mono ?_; rintro e1 w1 ⟨rfl, rfl⟩
     go_simp
     (try rw [hq1])
     refine hK.out _ _ (by assumption) (fun hHeld => ?_)
     clear hK K
     (try simp only [pz])
     (refine tA 3 25 ?_; simp only [pz])
     (refine tA 4 26 ?_; simp only [pz])
     (refine tA 5 27 ?_; simp only [pz])
     (refine tA 6 28 ?_; simp only [pz])
     (refine tA 7 29 ?_; simp only [pz])
     (refine tA 8 30 ?_; simp only [pz])
     (refine tK 9 31 ?_; simp only [pz])
     (refine tA 10 32 ?_; simp only [pz])
     (refine tA 11 33 ?_; simp only [pz])
     (refine tA 12 34 ?_; simp only [pz])
     (refine tA 13 35 ?_; simp only [pz])
     (refine tK 14 36 ?_; simp only [pz])
     (refine tA 15 37 ?_; simp only [pz])
     (refine tK 16 38 ?_; simp only [pz])
     (refine tA 17 39 ?_; simp only [pz])
     (refine tA 18 40 ?_; simp only [pz])
     (refine tA 19 41 ?_; simp only [pz])
     (refine tA 20 42 ?_; simp only [pz])
     (refine tA 21 43 ?_; simp only [pz])
     refine tX 22 44 (.agg #[.bool p0, .slice A2 p1.length c2, .slice A3 p2.length c3, .slice A4 p3.length c4]) (fun W hS => exec_loadMid _ _ rfl sb 1 rfl [.bool p0, .slice A2 p1.length c2, .slice A3 p2.length c3, .slice A4 p3.length c4] (rng4 hS.2.2.1 hS.2.2.2.1 hS.2.2.2.2.1 hS.2.2.2.2.2.1) Tryz.underlying83 rfl (by kernel_rfl)) ?_
     simp only [pz]
     refine oNe 23 fun K hK => ?_
     go_simp
     refine (HPO.out _ HRP.out hszD).mono ?_; rintro e2 w6 ⟨rfl, hb6⟩
     go_simp
     (try rw [hpp])
     have HB6 := hd_ hb6
     refine hK.out _ _ (HKP.out _ HB6.out) (fun hHeld => ?_)
     clear hK K hb6
     (try simp only [pz])
     (refine tA 24 46 ?_; simp only [pz])
     (refine tA 25 47 ?_; simp only [pz])
     refine AnyT.done (by kernel_rfl) ?_ _
     clear hHeld
     go_wp2_with fail
     go_ret
     exact ⟨by rw [HF.out]; rfl, (HBD.out.trans (HB6.out.mono hsd))⟩
  ·obtain rfl : k = l.length := by omega
   have i1 : ¬ ((l.length : Nat) : Int) < (l.length : Int) := by omega
   have hrw := (Sh.row 85 shSlot).R_below HR.out hb (by omega)
   have hbx := (Below.refl wr.heap.size wr).alloc (Nat.le_refl _) (.cells #[.int .i64 root, .slice A l.length c, .slice none 0 0, .int .i64 0] 132)
   have hblk := Blk.new wr 132 #[.int .i64 root, .slice A l.length c, .slice none 0 0, .int .i64 0]
   have HRW := hd_ ((Sh.row 85 shSlot).R_below hrw hbx (by omega))
   have hbw := hblk.lt
   clear hb hrw
   go_upto_region 10 with fail
   generalize (wr.alloc (.cells #[.int .i64 root, .slice A l.length c, .slice none 0 0, .int .i64 0] 132)) = w5 at *
   have HB5 := hd_ (HB.out.trans (hbx.mono hsz))
   have hs5 := HB5.out.size
   clear f0 f1
   obtain ⟨f0, f1⟩ := HF.out w5 HB5.out
   have HWD := hd_ (l16Down_any root A c l lo hi wr.heap.size (by omega) hkt.out h64 HFL.out 65 0 root ⟨#[]⟩ ⟨#[]⟩ (.slice none 0 0) [] none w5.drew rfl (by have := unmet_le l []; omega) (by have := unmet_le l []; simp only [List.length_nil]; omega)
    ((Sh.row 85 shSlot).R_below HRW.out (below_drewN' w5 1) (by omega)) ⟨hblk, OwnR.nil_ _ _ _⟩)
   rw [show (((0 : Nat) : Int) + 1) = 1 from rfl] at HWD
   have hans := HANS.out
   rw [hkt.out, Bool.true_and] at hans
   have HB5D := hd_ (show Below w.heap.size w w5.drew from (HB0.out.trans (HB5.out.mono (by omega))).drew)
   have hbb : wr.heap.size < w5.drew.heap.size := hbw
   have hwl : w.heap.size < wr.heap.size := by omega
   clear hblk hbx hbw HRW
   generalize wr.heap.size = b at *
   cases hw : walkP l 65 0 root ⟨#[]⟩ ⟨#[]⟩ ([], none) with
   | none =>
    rw [hw] at HWD
    have HA := hd_ (show ANS = false by
     have hw' : walkP l 65 0 root bD bD ([], none) = none := hw
     rw [hans, hw'])
    clear hw hans
    refine AnyT.region (fun _ => false) (fun W => W.cell? ⟨w.heap.size, 0, none⟩ = some (.int .i64 root) ∧ W.cell? ⟨w.heap.size, 1, none⟩ = some (.slice A l.length c)) (by kernel_rfl) ⟨f0, f1⟩ (fun hHeld => ?_)
    clear f0 f1
    generalize w5.drew = wD at *
    (refine tA 0 51 ?_; simp only [pz])
    (refine tA 1 52 ?_; simp only [pz])
    (refine tK 2 53 ?_; simp only [pz])
    refine oNe 3 fun K hK => ?_
    go_simp
    refine HWD.out.mono ?_; rintro e9 w9 hdn
    obtain ⟨o9, hF9, he9⟩ := hdn
    obtain rfl : e9 = .returned (.bool false) := he9
    go_simp
    have HBE := hd_ (hF9.toBelow hbb (fun g hg => by cases hg))
    refine hK.out _ _ ⟨(HBE.out.cell (p := ⟨w.heap.size, 0, none⟩) (by dsimp only; omega)).trans hHeld.1, (HBE.out.cell (p := ⟨w.heap.size, 1, none⟩) (by dsimp only; omega)).trans hHeld.2⟩ (fun hHeld => ?_)
    clear hK K HWD
    (try simp only [pz])
    (refine tA 4 55 ?_; simp only [pz])
    (refine sK 5 56 ?_; simp only [pz])
    (refine sK 6 57 ?_; simp only [pz])
    (refine sK 7 58 ?_; simp only [pz])
    (refine sK 8 59 ?_; simp only [pz])
    (refine sK 9 60 ?_; simp only [pz])
    (refine sK 10 61 ?_; simp only [pz])
    (refine sK 11 62 ?_; simp only [pz])
    (refine sK 12 63 ?_; simp only [pz])
    (refine sK 13 64 ?_; simp only [pz])
    (refine tA 14 65 ?_; simp only [pz])
    (refine tA 15 2 ?_; simp only [pz])
    refine AnyT.done (by kernel_rfl) ?_ _
    clear hHeld
    go_wp2_with fail
    go_ret
    exact ⟨by rw [HA.out]; rfl, HB5D.out.trans (HBE.out.mono (by omega))⟩
   | some st =>
    obtain ⟨m, q⟩ := st
    rw [hw] at HWD
    have HA := hd_ (show ANS = decide (m.length = l.length) by
     have hw' : walkP l 65 0 root bD bD ([], none) = some (m, q) := hw
     rw [hans, hw'])
    clear hw hans
    refine AnyT.region (fun _ => false) (fun W => W.cell? ⟨w.heap.size, 0, none⟩ = some (.int .i64 root) ∧ W.cell? ⟨w.heap.size, 1, none⟩ = some (.slice A l.length c)) (by kernel_rfl) ⟨f0, f1⟩ (fun hHeld => ?_)
    clear f0 f1
    generalize w5.drew = wD at *
    (refine tA 0 51 ?_; simp only [pz])
    (refine tA 1 52 ?_; simp only [pz])
    (refine tK 2 53 ?_; simp only [pz])
    refine oNe 3 fun K hK => ?_
    go_simp
    refine HWD.out.mono ?_; rintro e9 w9 hdn
    obtain ⟨o9, hF9, he9, mv9, ho9, hS9⟩ := hdn
    obtain rfl : e9 = .returned (.bool true) := he9
    obtain ⟨hB9, hO9⟩ := hS9
    obtain ⟨⟨A9, c9, rfl⟩, _⟩ := hO9
    go_simp
    have HBE := hd_ (hF9.toBelow hbb (fun g hg => by cases hg))
    have h2 := hB9.cell 2
    refine hK.out _ _ ⟨(HBE.out.cell (p := ⟨w.heap.size, 0, none⟩) (by dsimp only; omega)).trans hHeld.1, (HBE.out.cell (p := ⟨w.heap.size, 1, none⟩) (by dsimp only; omega)).trans hHeld.2⟩ (fun hHeld => ?_)
    clear hK K HWD
    (try simp only [pz])
    refine AnyT.mono (S' := fun W => W.cell? ⟨w.heap.size, 1, none⟩ = some (.slice A l.length c) ∧ W.cell? ⟨b, 2, none⟩ = some (.slice A9 m.length c9) ∧ W.cell? ⟨w.heap.size, 0, none⟩ = some (.int .i64 root)) (fun W h => ⟨h.2.2, h.1⟩) _ _ _ _ ?_
    have hHeld2 : (fun W : World => W.cell? ⟨w.heap.size, 1, none⟩ = some (.slice A l.length c) ∧ W.cell? ⟨b, 2, none⟩ = some (.slice A9 m.length c9) ∧ W.cell? ⟨w.heap.size, 0, none⟩ = some (.int .i64 root)) w9 := ⟨hHeld.2, by rw [h2, List.length_reverse]; rfl, hHeld.1⟩
    clear hHeld
    have hHeld := hHeld2
    clear hHeld2 h2 hB9
    (refine tA 4 55 ?_; simp only [pz])
    (refine tA 5 56 ?_; simp only [pz])
    (refine tA 6 57 ?_; simp only [pz])
    (refine tA 7 58 ?_; simp only [pz])
    (refine tK 8 59 ?_; simp only [pz])
    (refine tA 9 60 ?_; simp only [pz])
    (refine tA 10 61 ?_; simp only [pz])
    (refine tK 11 62 ?_; simp only [pz])
    (refine tA 12 63 ?_; simp only [pz])
    (refine tA 13 64 ?_; simp only [pz])
    (refine tA 14 65 ?_; simp only [pz])
    (refine tA 15 2 ?_; simp only [pz])
    refine AnyT.done (by kernel_rfl) ?_ _
    clear hHeld
    have HQ := hd_ (show ((m.length : Int) == (l.length : Int)) = decide (m.length = l.length) by rw [Bool.eq_iff_iff]; simp; omega)
    rw [HQ.out]
    generalize decide (m.length = l.length) = BB at *
    go_wp2_with fail
    go_ret
    exact ⟨by rw [HA.out]; rfl, HB5D.out.trans (HBE.out.mono (by omega))⟩
end Go.Proofs.YtnnabkldceklmaaGreatDoor
