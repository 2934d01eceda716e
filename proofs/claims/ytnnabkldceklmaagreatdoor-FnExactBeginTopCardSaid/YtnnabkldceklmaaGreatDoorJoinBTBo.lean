/- The program's BtreeOk walked. Printed by bto/bti.py. -/
import Derived.Test.YtnnabkldceklmaaGreatDoorJoinBTBn
namespace Go.Proofs.YtnnabkldceklmaaGreatDoor
open Go.RowKit
theorem map_lenB {P : Program} {w : World} {T K E : TypeId} {g : Nat} {es : List (Int × Value)} (hm : P.underlying T = some (.map K E)) (h : MapB w g es) (ty : TypeId) : (Builtin.len_ #[T] ty #[.map (some g)]).run P w = .ok (.int .i64 es.length) w := by
 obtain ⟨ents, clock, hb, he⟩ := h
 have : es.length = ents.size := by have := congrArg List.length he; simpa using this.symm
 rw [this]
 simp [Builtin.len_, run_underlying hm, MapKept.run_getObj_map hb, goInt]
set_option maxHeartbeats 32000000 in
set_option maxRecDepth 100000 in
theorem implBtreeOk_any (root : Int) (l : List TySlot) (A : Option Addr) (c lo hi : Nat) (w : World) (h : shBtree.R w lo hi [.int .i64 root, .slice A l.length c] (root, l)) (hhi : hi ≤ w.heap.size) (hf : shBtree.fit 1048576 (root, l)) (hE : EnvIn w) :
  Calls Tryz.prog 51 #[.agg #[.int .i64 root, .slice A l.length c]] w fun e w' => e = .returned (.bool (btreeP (root, l))) ∧ Below w.heap.size w w' := by
 obtain ⟨_, hnl, hfl⟩ := hf
 dsimp only at hnl hfl
 have HFL := hd_ hfl
 have HIN := hd_ (fun a lo hi W => withinP_any a lo hi W)
 obtain ⟨ANS, hANS⟩ : ∃ b, b = btreeP (root, l) := ⟨_, rfl⟩
 rw [← hANS]
 unfold btreeP at hANS
 dsimp only at hANS
 have HANS := hd_ hANS
 have HM := hd_ (fun k (hk : k < l.length) (h : slotB l k = false) => show ANS = false from by
  rw [hANS]
  have : slotsTo l l.length = false := by
   rw [Bool.eq_false_iff]; intro h2; rw [slotsTo_at h2 hk] at h; cases h
  rw [this]; rfl)
 have hb0 := (Below.refl w.heap.size w).alloc (Nat.le_refl _) (.cells #[.int .i64 root, .slice A l.length c] 50)
 have HH := hd_ h
 have HEE := hd_ hE
 have HB0 := hd_ hb0
 have HBK := hd_ (Blk.new w 50 #[.int .i64 root, .slice A l.length c])
 have hz0 : (w.alloc (.cells #[.int .i64 root, .slice A l.length c] 50)).heap.size = w.heap.size + 1 := by simp
 clear h hE hb0 hANS hfl
 go_enter Tryz.func51, Tryz.ntmps51
 go_upto_region 1 with fail
 generalize (w.alloc (.cells #[.int .i64 root, .slice A l.length c] 50)) = w0 at *
 have f := HBK.out.cell
 go_wp2_with fail
 clear f
 go_loopw [9] (fun i wr => ∃ k : Nat, k ≤ l.length ∧ i = .int .i64 k ∧ Hid (slotsTo l k = true) ∧ Below w0.heap.size w0 wr) (fun i _ => l.length - (intOf i).toNat)
 case atStart => exact ⟨0, Nat.zero_le _, rfl, hd_ rfl, Below.refl _ _⟩
 case round =>
  obtain ⟨k, hk, rfl, hkt, hb⟩ := hrel
  have hsz := hb.size
  have HBW := hd_ (show Below w.heap.size w wr from HB0.out.trans (hb.mono (by omega)))
  have HB := hd_ hb
  by_cases hlt : k < l.length
  ·have hrr := (Sh.row 85 shSlot).R_below (shBtree_f1 HH.out) HBW.out hhi
   obtain ⟨-, b, off, rfl, hb1, hb2, A2, c2, A3, c3, A4, c4, e0, e1, e2, e3, e4, hX⟩ := shSlot_at hrr hlt
   have i1 : (k : Int) < (l.length : Int) := by omega
   have hXf := HFL.out _ (getD_in (d := shSlot.d) hlt)
   have hpv : 0 < k → wr.cell? ⟨b, off + (k - 1) * 5, none⟩ = some (.int .i64 (l.getD (k - 1) (0, shPage.d)).1) := fun h0 => by
    obtain ⟨-, b', off', e, _, _, _, _, _, _, _, _, d0, _⟩ := shSlot_at hrr (show k - 1 < l.length by omega)
    injection e with e; injection e with e1 e2; subst e1; subst e2
    exact d0
   have HAT := hd_ (show slotB l k = (inB (l.getD k shSlot.d).1 1 64 && pageP (l.getD k shSlot.d).2 && (decide (k = 0) || decide ((l.getD (k - 1) (0, shPage.d)).1 < (l.getD k shSlot.d).1))) from slotB_eqI l k)
   have HNX := hd_ (slotsTo_next l k)
   have HMk := hd_ (HM.out k hlt)
   generalize (l.getD (k - 1) (0, shPage.d)).1 = z0 at *
   generalize l.getD k shSlot.d = X at *
   obtain ⟨y, p0, p1, p2, p3⟩ := X
   dsimp only at e0 e1 e2 e3 e4 hX hXf HAT
   have hzA : (wr.alloc (.cells #[.int .i64 y, .bool p0, .slice A2 p1.length c2, .slice A3 p2.length c3, .slice A4 p3.length c4] 85)).heap.size = wr.heap.size + 1 := by simp
   have hbA := (Below.refl wr.heap.size wr).alloc (Nat.le_refl _) (.cells #[.int .i64 y, .bool p0, .slice A2 p1.length c2, .slice A3 p2.length c3, .slice A4 p3.length c4] 85)
   have HBA := hd_ hbA
   have HKA := hd_ (Blk.new wr 85 #[.int .i64 y, .bool p0, .slice A2 p1.length c2, .slice A3 p2.length c3, .slice A4 p3.length c4])
   have HPG := hd_ (shSlot_f1 hX)
   have HXF := hd_ ((shSlot_fit y p0 p1 p2 p3).1 hXf).2
   have HPV := hd_ hpv
   clear hX hXf hpv hrr hb hbA HM
   have hbw : b < wr.heap.size := by omega
   go_upto_region 4 with fail
   clear e0 e1 e2 e3 e4
   generalize (wr.alloc (.cells #[.int .i64 y, .bool p0, .slice A2 p1.length c2, .slice A3 p2.length c3, .slice A4 p3.length c4] 85)) = wA at *
   have HBD := hd_ (show Below wr.heap.size wr wA.drew from HBA.out.drew)
   have hzD : wA.drew.heap.size = wr.heap.size + 1 := hzA
   have HKD := hd_ (show Blk wA.drew _ _ _ from HKA.out.drewN 1)
   have HBWD := hd_ (show Below w.heap.size w wA.drew from HBW.out.trans (HBD.out.mono (by omega)))
   have HSS := hd_ (show ∀ W, Below wA.drew.heap.size wA.drew W → (∀ i, W.cell? ⟨wr.heap.size, i, none⟩ = (#[.int .i64 y, .bool p0, .slice A2 p1.length c2, .slice A3 p2.length c3, .slice A4 p3.length c4] : Array Value)[i]?) ∧ (∀ i, W.cell? ⟨w.heap.size, i, none⟩ = (#[.int .i64 root, .slice (some ⟨b, off, none⟩) l.length c] : Array Value)[i]?) ∧ (0 < k → W.cell? ⟨b, off + (k - 1) * 5, none⟩ = some (.int .i64 z0)) from fun W hW => ⟨(HKD.out.below hW (by omega)).cell, (((HBK.out.below HB.out (by omega)).below HBD.out (by omega)).below hW (by omega)).cell, fun h0 => (hW.cell (p := ⟨b, off + (k - 1) * 5, none⟩) (by show b < _; omega)).trans ((HBD.out.cell (p := ⟨b, off + (k - 1) * 5, none⟩) (by show b < _; omega)).trans (HPV.out h0))⟩)
   have HPK := hd_ (pageOkP_any p0 p1 p2 p3 A2 c2 A3 c3 A4 c4 lo hi wA.drew (shPage.R_below HPG.out HBD.out (by omega)) (by omega) HXF.out (HEE.out.below HBWD.out))
   have HRF := hd_ (Below.refl wA.drew.heap.size wA.drew)
   clear HKA HBA HPG HXF HPV HKD
   cases hq1 : inB y 1 64 with
   | false =>
    have HF := hd_ (HMk.out (by rw [HAT.out, hq1]; rfl))
    clear HPK
    refine AnyT.region (fun _ => false) (fun W => (∀ i, W.cell? ⟨wr.heap.size, i, none⟩ = (#[.int .i64 y, .bool p0, .slice A2 p1.length c2, .slice A3 p2.length c3, .slice A4 p3.length c4] : Array Value)[i]?) ∧ (∀ i, W.cell? ⟨w.heap.size, i, none⟩ = (#[.int .i64 root, .slice (some ⟨b, off, none⟩) l.length c] : Array Value)[i]?) ∧ (0 < k → W.cell? ⟨b, off + (k - 1) * 5, none⟩ = some (.int .i64 z0))) (by kernel_rfl) (HSS.out _ HRF.out) (fun hHeld => ?_)
    clear HSS
    generalize wA.drew = wD at *
    (refine tA 0 14 ?_; simp only [pz])
    (refine tK 1 15 ?_; simp only [pz])
    refine oNe 2 fun K hK => ?_
    go_simp
    refine (HIN.out _ _ _ _).mono ?_; rintro e1 w1 ⟨rfl, rfl⟩
    go_simp
    (try rw [hq1])
    refine hK.out _ _ (by assumption) (fun hHeld => ?_)
    clear hK K
    (try simp only [pz])
    (refine tA 3 17 ?_; simp only [pz])
    (refine tA 4 18 ?_; simp only [pz])
    (refine sK 5 19 ?_; simp only [pz])
    (refine sK 6 20 ?_; simp only [pz])
    (refine sK 7 21 ?_; simp only [pz])
    (refine sK 8 22 ?_; simp only [pz])
    (refine tA 9 23 ?_; simp only [pz])
    (refine tA 10 24 ?_; simp only [pz])
    (refine sK 11 25 ?_; simp only [pz])
    (refine sK 12 26 ?_; simp only [pz])
    (refine sK 13 27 ?_; simp only [pz])
    (refine sK 14 28 ?_; simp only [pz])
    (refine sK 15 29 ?_; simp only [pz])
    (refine sK 16 30 ?_; simp only [pz])
    (refine sK 17 31 ?_; simp only [pz])
    (refine sK 18 32 ?_; simp only [pz])
    (refine sK 19 33 ?_; simp only [pz])
    (refine sK 20 34 ?_; simp only [pz])
    (refine sK 21 35 ?_; simp only [pz])
    (refine sK 22 36 ?_; simp only [pz])
    (refine sK 23 37 ?_; simp only [pz])
    (refine sK 24 38 ?_; simp only [pz])
    (refine tA 25 39 ?_; simp only [pz])
    refine AnyT.done (by kernel_rfl) ?_ _
    clear hHeld
    go_wp2_with fail
    go_ret
    exact ⟨by rw [HF.out]; rfl, HBWD.out⟩
   | true =>
   cases hq2 : pageP (p0, p1, p2, p3) with
   | false =>
    rw [hq2] at HPK
    have HF := hd_ (HMk.out (by rw [HAT.out, hq1, hq2]; rfl))
    refine AnyT.region (fun _ => false) (fun W => (∀ i, W.cell? ⟨wr.heap.size, i, none⟩ = (#[.int .i64 y, .bool p0, .slice A2 p1.length c2, .slice A3 p2.length c3, .slice A4 p3.length c4] : Array Value)[i]?) ∧ (∀ i, W.cell? ⟨w.heap.size, i, none⟩ = (#[.int .i64 root, .slice (some ⟨b, off, none⟩) l.length c] : Array Value)[i]?) ∧ (0 < k → W.cell? ⟨b, off + (k - 1) * 5, none⟩ = some (.int .i64 z0))) (by kernel_rfl) (HSS.out _ HRF.out) (fun hHeld => ?_)
    generalize wA.drew = wD at *
    (refine tA 0 14 ?_; simp only [pz])
    (refine tK 1 15 ?_; simp only [pz])
    refine oNe 2 fun K hK => ?_
    go_simp
    refine (HIN.out _ _ _ _).mono ?_; rintro e1 w1 ⟨rfl, rfl⟩
    go_simp
    (try rw [hq1])
    refine hK.out _ _ (by assumption) (fun hHeld => ?_)
    clear hK K
    (try simp only [pz])
    (refine tA 3 17 ?_; simp only [pz])
    (refine tA 4 18 ?_; simp only [pz])
    (refine tA 5 19 ?_; simp only [pz])
    (refine tK 6 20 ?_; simp only [pz])
    refine oNe 7 fun K hK => ?_
    go_simp
    refine (HPK.out).mono ?_; rintro e2 w5 ⟨rfl, hb5⟩
    go_simp
    have HB5 := hd_ hb5
    clear hb5
    refine hK.out _ _ (HSS.out _ HB5.out) (fun hHeld => ?_)
    clear hK K
    (try simp only [pz])
    (refine tA 8 22 ?_; simp only [pz])
    (refine tA 9 23 ?_; simp only [pz])
    (refine tA 10 24 ?_; simp only [pz])
    (refine sK 11 25 ?_; simp only [pz])
    (refine sK 12 26 ?_; simp only [pz])
    (refine sK 13 27 ?_; simp only [pz])
    (refine sK 14 28 ?_; simp only [pz])
    (refine sK 15 29 ?_; simp only [pz])
    (refine sK 16 30 ?_; simp only [pz])
    (refine sK 17 31 ?_; simp only [pz])
    (refine sK 18 32 ?_; simp only [pz])
    (refine sK 19 33 ?_; simp only [pz])
    (refine sK 20 34 ?_; simp only [pz])
    (refine sK 21 35 ?_; simp only [pz])
    (refine sK 22 36 ?_; simp only [pz])
    (refine sK 23 37 ?_; simp only [pz])
    (refine sK 24 38 ?_; simp only [pz])
    (refine tA 25 39 ?_; simp only [pz])
    refine AnyT.done (by kernel_rfl) ?_ _
    clear hHeld
    go_wp2_with fail
    go_ret
    exact ⟨by rw [HF.out]; rfl, HBWD.out.trans (HB5.out.mono HBWD.out.size)⟩
   | true =>
    rw [hq2] at HPK
    by_cases h00 : k = 0
    ·have i0 : ¬ (0 : Int) < (k : Int) := by omega
     have HOK := hd_ (show slotsTo l (k + 1) = true by rw [HNX.out, hkt.out, HAT.out, hq1, hq2, decide_eq_true h00]; rfl)
     have k8 : decide ((0 : Int) < (k : Int)) = false := by rw [decide_eq_false_iff_not]; omega
     have k9 : decide (0 < k) = false := by rw [decide_eq_false_iff_not]; omega
     clear h00
     refine AnyT.region (fun _ => false) (fun W => (∀ i, W.cell? ⟨wr.heap.size, i, none⟩ = (#[.int .i64 y, .bool p0, .slice A2 p1.length c2, .slice A3 p2.length c3, .slice A4 p3.length c4] : Array Value)[i]?) ∧ (∀ i, W.cell? ⟨w.heap.size, i, none⟩ = (#[.int .i64 root, .slice (some ⟨b, off, none⟩) l.length c] : Array Value)[i]?) ∧ (0 < k → W.cell? ⟨b, off + (k - 1) * 5, none⟩ = some (.int .i64 z0))) (by kernel_rfl) (HSS.out _ HRF.out) (fun hHeld => ?_)
     generalize wA.drew = wD at *
     (refine tA 0 14 ?_; simp only [pz])
     (refine tK 1 15 ?_; simp only [pz])
     refine oNe 2 fun K hK => ?_
     go_simp
     refine (HIN.out _ _ _ _).mono ?_; rintro e1 w1 ⟨rfl, rfl⟩
     go_simp
     (try rw [hq1])
     refine hK.out _ _ (by assumption) (fun hHeld => ?_)
     clear hK K
     (try simp only [pz])
     (refine tA 3 17 ?_; simp only [pz])
     (refine tA 4 18 ?_; simp only [pz])
     (refine tA 5 19 ?_; simp only [pz])
     (refine tK 6 20 ?_; simp only [pz])
     refine oNe 7 fun K hK => ?_
     go_simp
     refine (HPK.out).mono ?_; rintro e2 w5 ⟨rfl, hb5⟩
     go_simp
     have HB5 := hd_ hb5
     clear hb5
     refine hK.out _ _ (HSS.out _ HB5.out) (fun hHeld => ?_)
     clear hK K
     (try simp only [pz])
     (refine tA 8 22 ?_; simp only [pz])
     (refine tA 9 23 ?_; simp only [pz])
     (refine tA 10 24 ?_; simp only [pz])
     (refine tA 11 25 ?_; simp only [pz])
     (refine tA 12 26 ?_; simp only [pz])
     (refine tA 13 27 ?_; simp only [pz])
     (refine sK 14 28 ?_; simp only [pz])
     (refine sK 15 29 ?_; simp only [pz])
     (refine sK 16 30 ?_; simp only [pz])
     (refine sK 17 31 ?_; simp only [pz])
     (refine sK 18 32 ?_; simp only [pz])
     (refine sK 19 33 ?_; simp only [pz])
     (refine sK 20 34 ?_; simp only [pz])
     (refine sK 21 35 ?_; simp only [pz])
     (refine sK 22 36 ?_; simp only [pz])
     (refine sK 23 37 ?_; simp only [pz])
     (refine tA 24 38 ?_; simp only [pz])
     (refine tA 25 39 ?_; simp only [pz])
     refine AnyT.done (by kernel_rfl) ?_ _
     clear hHeld
     have HBF := hd_ (HB.out.trans ((HBD.out.trans (HB5.out.mono HBD.out.size)).mono (by omega)))
     go_wp2_with fail
     go_roundw
     case rel => exact ⟨k + 1, by omega, by go_num, HOK, HBF.out⟩
     all_goals (first | omega | (simp only [intOf, Int.toNat_natCast]; omega) | (simp [intOf]; omega))
    have hk0 : 0 < k := by omega
    have i0 : (0 : Int) < (k : Int) := by omega
    have i8 : IntKind.i64.wrap ((k : Int) - 1) = (k : Int) - 1 := IntWalk.i64_in _ (by omega)
    have i12 : k - 1 < l.length := by omega
    have i13 : (k : Int) - 1 < (l.length : Int) := by omega
    have i14 : (1 : Int) ≤ (k : Int) := by omega
    have i15 : ((k : Int) - 1).toNat = k - 1 := by omega
    have i16 : (0 : Int) ≤ (k : Int) - 1 := by omega
    have k6 : 1 ≤ k := by omega
    have k8 : decide ((0 : Int) < (k : Int)) = true := decide_eq_true i0
    have k9 : decide (0 < k) = true := decide_eq_true hk0
    by_cases hz : z0 < y
    ·have HOK := hd_ (show slotsTo l (k + 1) = true by rw [HNX.out, hkt.out, HAT.out, hq1, hq2, decide_eq_true hz, Bool.or_true]; rfl)
     have j0 : decide (y ≤ z0) = false := by rw [decide_eq_false_iff_not]; omega
     have j1 : ¬ y ≤ z0 := by omega
     refine AnyT.region (fun _ => false) (fun W => (∀ i, W.cell? ⟨wr.heap.size, i, none⟩ = (#[.int .i64 y, .bool p0, .slice A2 p1.length c2, .slice A3 p2.length c3, .slice A4 p3.length c4] : Array Value)[i]?) ∧ (∀ i, W.cell? ⟨w.heap.size, i, none⟩ = (#[.int .i64 root, .slice (some ⟨b, off, none⟩) l.length c] : Array Value)[i]?) ∧ (0 < k → W.cell? ⟨b, off + (k - 1) * 5, none⟩ = some (.int .i64 z0))) (by kernel_rfl) (HSS.out _ HRF.out) (fun hHeld => ?_)
     generalize wA.drew = wD at *
     (refine tA 0 14 ?_; simp only [pz])
     (refine tK 1 15 ?_; simp only [pz])
     refine oNe 2 fun K hK => ?_
     go_simp
     refine (HIN.out _ _ _ _).mono ?_; rintro e1 w1 ⟨rfl, rfl⟩
     go_simp
     (try rw [hq1])
     refine hK.out _ _ (by assumption) (fun hHeld => ?_)
     clear hK K
     (try simp only [pz])
     (refine tA 3 17 ?_; simp only [pz])
     (refine tA 4 18 ?_; simp only [pz])
     (refine tA 5 19 ?_; simp only [pz])
     (refine tK 6 20 ?_; simp only [pz])
     refine oNe 7 fun K hK => ?_
     go_simp
     refine (HPK.out).mono ?_; rintro e2 w5 ⟨rfl, hb5⟩
     go_simp
     have HB5 := hd_ hb5
     clear hb5
     refine hK.out _ _ (HSS.out _ HB5.out) (fun hHeld => ?_)
     clear hK K
     (try simp only [pz])
     (refine tA 8 22 ?_; simp only [pz])
     (refine tA 9 23 ?_; simp only [pz])
     (refine tA 10 24 ?_; simp only [pz])
     (refine tA 11 25 ?_; simp only [pz])
     (refine tA 12 26 ?_; simp only [pz])
     (refine tA 13 27 ?_; simp only [pz])
     (refine tA 14 28 ?_; simp only [pz])
     (refine tK 15 29 ?_; simp only [pz])
     (refine tA 16 30 ?_; simp only [pz])
     (refine tA 17 31 ?_; simp only [pz])
     (refine tA 18 32 ?_; simp only [pz])
     (refine tA 19 33 ?_; simp only [pz])
     (refine tK 20 34 ?_; simp only [pz])
     (refine tA 21 35 ?_; simp only [pz])
     (refine tK 22 36 ?_; simp only [pz])
     (refine tA 23 37 ?_; simp only [pz])
     (refine tA 24 38 ?_; simp only [pz])
     (refine tA 25 39 ?_; simp only [pz])
     refine AnyT.done (by kernel_rfl) ?_ _
     clear hHeld
     have HBF := hd_ (HB.out.trans ((HBD.out.trans (HB5.out.mono HBD.out.size)).mono (by omega)))
     go_wp2_with fail
     go_roundw
     case rel => exact ⟨k + 1, by omega, by go_num, HOK, HBF.out⟩
     all_goals (first | omega | (simp only [intOf, Int.toNat_natCast]; omega) | (simp [intOf]; omega))
    ·have HF := hd_ (HMk.out (by rw [HAT.out, hq1, hq2, decide_eq_false hz, decide_eq_false h00]; rfl))
     have j0 : decide (y ≤ z0) = true := by rw [decide_eq_true_eq]; omega
     have j1 : y ≤ z0 := by omega
     refine AnyT.region (fun _ => false) (fun W => (∀ i, W.cell? ⟨wr.heap.size, i, none⟩ = (#[.int .i64 y, .bool p0, .slice A2 p1.length c2, .slice A3 p2.length c3, .slice A4 p3.length c4] : Array Value)[i]?) ∧ (∀ i, W.cell? ⟨w.heap.size, i, none⟩ = (#[.int .i64 root, .slice (some ⟨b, off, none⟩) l.length c] : Array Value)[i]?) ∧ (0 < k → W.cell? ⟨b, off + (k - 1) * 5, none⟩ = some (.int .i64 z0))) (by kernel_rfl) (HSS.out _ HRF.out) (fun hHeld => ?_)
     generalize wA.drew = wD at *
     (refine tA 0 14 ?_; simp only [pz])
     (refine tK 1 15 ?_; simp only [pz])
     refine oNe 2 fun K hK => ?_
     go_simp
     refine (HIN.out _ _ _ _).mono ?_; rintro e1 w1 ⟨rfl, rfl⟩
     go_simp
     (try rw [hq1])
     refine hK.out _ _ (by assumption) (fun hHeld => ?_)
     clear hK K
     (try simp only [pz])
     (refine tA 3 17 ?_; simp only [pz])
     (refine tA 4 18 ?_; simp only [pz])
     (refine tA 5 19 ?_; simp only [pz])
     (refine tK 6 20 ?_; simp only [pz])
     refine oNe 7 fun K hK => ?_
     go_simp
     refine (HPK.out).mono ?_; rintro e2 w5 ⟨rfl, hb5⟩
     go_simp
     have HB5 := hd_ hb5
     clear hb5
     refine hK.out _ _ (HSS.out _ HB5.out) (fun hHeld => ?_)
     clear hK K
     (try simp only [pz])
     (refine tA 8 22 ?_; simp only [pz])
     (refine tA 9 23 ?_; simp only [pz])
     (refine tA 10 24 ?_; simp only [pz])
     (refine tA 11 25 ?_; simp only [pz])
     (refine tA 12 26 ?_; simp only [pz])
     (refine tA 13 27 ?_; simp only [pz])
     (refine tA 14 28 ?_; simp only [pz])
     (refine tK 15 29 ?_; simp only [pz])
     (refine tA 16 30 ?_; simp only [pz])
     (refine tA 17 31 ?_; simp only [pz])
     (refine tA 18 32 ?_; simp only [pz])
     (refine tA 19 33 ?_; simp only [pz])
     (refine tK 20 34 ?_; simp only [pz])
     (refine tA 21 35 ?_; simp only [pz])
     (refine tK 22 36 ?_; simp only [pz])
     (refine tA 23 37 ?_; simp only [pz])
     (refine tA 24 38 ?_; simp only [pz])
     (refine tA 25 39 ?_; simp only [pz])
     refine AnyT.done (by kernel_rfl) ?_ _
     clear hHeld
     go_wp2_with fail
     go_ret
     exact ⟨by rw [HF.out]; rfl, HBWD.out.trans (HB5.out.mono HBWD.out.size)⟩
  ·obtain rfl : k = l.length := by omega
   have i1 : ¬ (l.length : Int) < (l.length : Int) := by omega
   have hn64 := slots_few hkt.out
   have HANS := hd_ (show ANS = match walkP l 65 0 root bD bD ([], none) with | none => false | some st => decide (st.1.length = l.length) by rw [HANS.out, hkt.out, Bool.true_and]; rfl)
   have f := (HBK.out.below HB.out (by omega)).cell
   have HPO := hd_ (pagesOf_any root l A c lo hi wr (shBtree.R_below HH.out HBW.out hhi) (by omega) hkt.out HFL.out hnl)
   have hmm := @run_makeMap Tryz.prog
   clear hb HM
   go_wp2_with fail
   refine HPO.out.mono ?_; rintro e1 w3 ⟨gp, rfl, ⟨gb, hP⟩, hb3⟩
   have hs3 := hb3.size
   have HP := hd_ hP
   have HBW3 := hd_ (HBW.out.trans (hb3.mono (by omega)))
   have HBK3 := hd_ ((HBK.out.below HB.out (by omega)).below hb3 (by omega))
   clear hP hb3 f HPO HB HBK HBW
   go_upto_region 8 with fail
   have hz8 : ((w3.alloc (.map #[] 0)).alloc (.cells #[.pointer (some ⟨gp, 0, none⟩), .map (some w3.heap.size), .int .i64 (-1)] 156)).drew.heap.size = w3.heap.size + 1 + 1 := by show ((w3.alloc (.map #[] 0)).alloc (.cells #[.pointer (some ⟨gp, 0, none⟩), .map (some w3.heap.size), .int .i64 (-1)] 156)).heap.size = _; simp
   have HB8 := hd_ (((Below.refl w3.heap.size w3).alloc (Nat.le_refl _) (.map #[] 0)).alloc (by simp) (.cells #[.pointer (some ⟨gp, 0, none⟩), .map (some w3.heap.size), .int .i64 (-1)] 156)).drew
   have HW8 : Hid (WkI ((w3.alloc (.map #[] 0)).alloc (.cells #[.pointer (some ⟨gp, 0, none⟩), .map (some w3.heap.size), .int .i64 (-1)] 156)).drew (w3.heap.size + 1) gp w3.heap.size [] none) := hd_ (by
    refine ⟨?_, ?_⟩
    ·have := Blk.new (w3.alloc (.map #[] 0)) 156 #[.pointer (some ⟨gp, 0, none⟩), .map (some w3.heap.size), .int .i64 (-1)]
     rw [show (w3.alloc (.map #[] 0)).heap.size = w3.heap.size + 1 by simp] at this
     exact this.drewN 1
    ·exact (MapB.new w3).below ((Below.refl _ _).alloc (Nat.le_refl _) (.cells #[.pointer (some ⟨gp, 0, none⟩), .map (some w3.heap.size), .int .i64 (-1)] 156)).drew (by simp))
   have fb := (HBK3.out.below HB8.out (by omega)).cell
   refine AnyT.region (fun _ => false) (fun W => ∀ i, W.cell? ⟨w.heap.size, i, none⟩ = (#[.int .i64 root, .slice A l.length c] : Array Value)[i]?) (by kernel_rfl) fb (fun hHeld => ?_)
   generalize ((w3.alloc (.map #[] 0)).alloc (.cells #[.pointer (some ⟨gp, 0, none⟩), .map (some w3.heap.size), .int .i64 (-1)] 156)).drew = w8 at *
   have HWK := hd_ (walk_any root l wr.heap.size w3.heap.size gp gb w3.heap.size (w3.heap.size + 1) (by omega) (Nat.le_refl _) (by omega) hkt.out hn64 HFL.out 65 0 root bD bD [] none w8 rfl (by have := unmet_le l []; omega) (by have := unmet_le l []; simp only [List.length_nil]; omega) (fun e he => by cases he) (.inl ⟨rfl, rfl⟩) (HP.out.below HB8.out (Nat.le_refl _)) HW8.out)
   have HBW8 := hd_ (HBW3.out.trans (HB8.out.mono (by have := HBW3.out.size; omega)))
   clear fb HW8 HP HBW3
   (refine tA 0 46 ?_; simp only [pz])
   (refine tA 1 47 ?_; simp only [pz])
   (refine tK 2 48 ?_; simp only [pz])
   refine oNe 3 fun K hK => ?_
   go_simp
   refine HWK.out.mono ?_; rintro e9 w9 ⟨ho9, he9⟩
   have hs9 := ho9.size
   have hS9 : ∀ i, w9.cell? ⟨w.heap.size, i, none⟩ = (#[.int .i64 root, .slice A l.length c] : Array Value)[i]? := fun i => (World.cell?_of_block (ho9.block w.heap.size (by omega) (fun h => by simp only [List.mem_cons, List.not_mem_nil, or_false] at h; omega))).trans (hHeld i)
   have HB9 := hd_ (show Below w.heap.size w w9 from HBW8.out.trans (ho9.belowN HBW8.out.size (fun g hg => by simp only [List.mem_cons, List.not_mem_nil, or_false] at hg; omega)))
   have HHE := hd_ he9
   clear he9 HWK ho9
   cases hw : walkP l 65 0 root bD bD ([], none) with
   | none =>
    have he := HHE.out
    rw [hw] at he
    obtain rfl : e9 = .returned (.bool false) := he
    have HF := hd_ (show ANS = false by rw [HANS.out, hw])
    clear hw HHE HANS
    go_simp
    refine hK.out _ _ hS9 (fun hHeld => ?_)
    clear hK K
    (try simp only [pz])
    (refine tA 4 50 ?_; simp only [pz])
    (refine sK 5 51 ?_; simp only [pz])
    (refine sK 6 52 ?_; simp only [pz])
    (refine sK 7 53 ?_; simp only [pz])
    (refine sK 8 54 ?_; simp only [pz])
    (refine sK 9 55 ?_; simp only [pz])
    (refine sK 10 56 ?_; simp only [pz])
    (refine sK 11 57 ?_; simp only [pz])
    (refine sK 12 58 ?_; simp only [pz])
    (refine sK 13 59 ?_; simp only [pz])
    (refine tA 14 60 ?_; simp only [pz])
    (refine tA 15 2 ?_; simp only [pz])
    refine AnyT.done (by kernel_rfl) ?_ _
    clear hHeld hS9
    go_wp2_with fail
    go_ret
    exact ⟨by rw [HF.out]; rfl, HB9.out⟩
   | some st =>
    obtain ⟨m, q⟩ := st
    have he := HHE.out
    rw [hw] at he
    obtain ⟨rfl, hk1, hm1⟩ : e9 = .returned (.bool true) ∧ _ ∧ _ := he
    have hANS : ANS = decide (m.length = l.length) := by rw [HANS.out, hw]
    have fw := hk1.cell 1
    simp only [List.getElem?_toArray, List.getElem?_cons_zero, List.getElem?_cons_succ] at fw
    have hlen := map_lenB (T := 154) Tryz.underlying154 hm1 3
    rw [List.length_map, List.length_reverse] at hlen
    dsimp only at hlen
    clear hw HHE HANS hk1 hm1
    go_simp
    refine hK.out _ _ hS9 (fun hHeld => ?_)
    clear hK K
    (try simp only [pz])
    (refine tA 4 50 ?_; simp only [pz])
    (refine tA 5 51 ?_; simp only [pz])
    (refine tA 6 52 ?_; simp only [pz])
    (refine tA 7 53 ?_; simp only [pz])
    (refine tA 10 56 ?_; simp only [pz])
    (refine tK 11 57 ?_; simp only [pz])
    (refine tA 12 58 ?_; simp only [pz])
    refine oNe 8 fun K hK => ?_
    go_simp
    refine hK.out _ _ hS9 (fun hHeld => ?_)
    clear hK K
    (try simp only [pz])
    refine oNe 9 fun K hK => ?_
    go_simp
    refine hK.out _ _ hS9 (fun hHeld => ?_)
    clear hK K
    (try simp only [pz])
    by_cases hEq : m.length = l.length
    ·have HF := hd_ (show ANS = true by rw [hANS, decide_eq_true hEq])
     have i3 : ((m.length : Int) == (l.length : Int)) = true := by rw [beq_iff_eq]; omega
     have i4 : (m.length == l.length) = true := by rw [beq_iff_eq]; exact hEq
     have HEQ := hd_ hEq
     clear hEq hANS hlen fw
     (refine tA 13 59 ?_; simp only [pz])
     (refine tA 14 60 ?_; simp only [pz])
     (refine tA 15 2 ?_; simp only [pz])
     refine AnyT.done (by kernel_rfl) ?_ _
     clear hHeld hS9
     go_wp2_with fail
     go_ret
     exact ⟨by rw [HF.out]; first | rfl | simp [HEQ.out], HB9.out⟩
    ·have HF := hd_ (show ANS = false by rw [hANS, decide_eq_false hEq])
     have i3 : ((m.length : Int) == (l.length : Int)) = false := by rw [beq_eq_false_iff_ne]; omega
     have i4 : (m.length == l.length) = false := by rw [beq_eq_false_iff_ne]; exact hEq
     have HEQ := hd_ hEq
     clear hEq hANS hlen fw
     (refine tA 13 59 ?_; simp only [pz])
     (refine tA 14 60 ?_; simp only [pz])
     (refine tA 15 2 ?_; simp only [pz])
     refine AnyT.done (by kernel_rfl) ?_ _
     clear hHeld hS9
     go_wp2_with fail
     go_ret
     exact ⟨by rw [HF.out]; first | rfl | simp [HEQ.out], HB9.out⟩
end Go.Proofs.YtnnabkldceklmaaGreatDoor
