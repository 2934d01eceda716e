/- The reference's l15Keys walked. -/
import Derived.Test.YtnnabkldceklmaaGreatDoorJoinBTBe
import Derived.Deep.Slices
set_option maxHeartbeats 16000000
set_option maxRecDepth 100000
namespace Go.Proofs.YtnnabkldceklmaaGreatDoor
open Go.RowKit
theorem l15Keys_any (A : Option Addr) (c lo hi : Nat) (xs : List ByteArray) (w : World) (ha : StrR w lo hi A xs.length xs) (hhi : hi ≤ w.heap.size) (hn : xs.length ≤ 1048576) (hx : ∀ x ∈ xs, x.size ≤ 1048576) :
  Calls Tryz.prog 153 #[.slice A xs.length c] w fun e w' => e = .returned (.bool (keysTo xs (min xs.length 7) && decide (xs.length ≤ 6))) ∧ Below w.heap.size w w' := by
 have HA := hd_ ha
 have HX := hd_ hx
 clear ha hx
 go_enter Tryz.func153, Tryz.ntmps153
 go_wp2_with fail
 go_loopw [3] (fun i wr => ∃ k : Nat, k ≤ xs.length ∧ k ≤ 7 ∧ i = .int .i64 k ∧ Hid (keysTo xs k = true) ∧ Below w.heap.size w wr) (fun i _ => 7 - (intOf i).toNat)
 case atStart => exact ⟨0, Nat.zero_le _, by omega, rfl, hd_ rfl, Below.refl _ _⟩
 case round =>
  obtain ⟨k, hk, hk7, rfl, hkt, hb⟩ := hrel
  have hsz := hb.size
  have HB := hd_ hb
  by_cases hmore : k < xs.length ∧ k ≤ 6
  ·obtain ⟨hlt, h6⟩ := hmore
   obtain ⟨b, off, rfl, hb1, hb2, hcell⟩ := (HA.out.below hb hhi).at_ hlt
   have i1 : (k : Int) < (xs.length : Int) := by omega
   have i6 : (k : Int) ≤ 6 := by omega
   have HKP := hd_ (specKeyPlace_any (xs.getD k bD) (HX.out _ (getD_in (d := bD) hlt)) wr)
   have HAT := hd_ (show keyAtB xs k = ((placeP (xs.getD k bD).data.toList).isSome && (decide (k = 0) || ltS (xs.getD (k - 1) bD) (xs.getD k bD))) from rfl)
   have HNX := hd_ (keysTo_next xs k)
   have HM := hd_ (fun (m : Nat) (h1 : k < m) (h : keyAtB xs k = false) => show keysTo xs m = false from by
    rw [Bool.eq_false_iff]; intro h2; rw [keysTo_at h2 h1] at h; cases h)
   have hpc : 0 < k → ∀ W, Below wr.heap.size wr W → W.cell? ⟨b, off + (k - 1), none⟩ = some (.string (xs.getD (k - 1) bD)) := fun hk0 W hW => by
    obtain ⟨b', off', e, _, hb2', hc'⟩ := ((HA.out.below hb hhi).below hW (by omega)).at_ (show k - 1 < xs.length by omega)
    injection e with e; injection e with e1 e2 e3; subst e1 e2
    exact hc'
   have hcc : ∀ W, Below wr.heap.size wr W → W.cell? ⟨b, off + k, none⟩ = some (.string (xs.getD k bD)) := fun W hW => (hW.cell (p := ⟨b, off + k, none⟩) (by dsimp only; omega)).trans hcell
   have HPC := hd_ hpc; have HCC := hd_ hcc
   clear hpc hcc hb
   generalize xs.getD k bD = X at *
   generalize xs.getD (k - 1) bD = Y at *
   go_wp2_with fail
   refine HKP.out.mono ?_; rintro e1 w1 ⟨nm, v, rfl, hb1'⟩
   have HB1 := hd_ (HB.out.trans (hb1'.mono hsz))
   have HY := hd_ (show 0 < k → w1.drew.cell? ⟨b, off + (k - 1), none⟩ = some (.string Y) from fun h => HPC.out h _ hb1'.drew)
   have HXC := hd_ (show w1.drew.cell? ⟨b, off + k, none⟩ = some (.string X) from HCC.out _ hb1'.drew)
   clear hb1' HKP hcell
   cases hpl : (placeP X.data.toList).isSome with
   | false =>
    rw [hpl] at HAT
    have HF := hd_ (HM.out _ (show k < min xs.length 7 by omega) HAT.out)
    clear hpl
    go_upto_region 5 with fail
    refine AnyT.region (fun _ => false) (fun _ => True) (by kernel_rfl) trivial (fun hHeld => ?_)
    clear HXC HY
    (refine tA 0 26 ?_; simp only [pz])
    (refine tA 1 27 ?_; simp only [pz])
    (refine tA 2 28 ?_; simp only [pz])
    (refine sK 3 29 ?_; simp only [pz])
    (refine sK 4 30 ?_; simp only [pz])
    (refine sK 5 31 ?_; simp only [pz])
    (refine sK 6 32 ?_; simp only [pz])
    (refine sK 7 33 ?_; simp only [pz])
    (refine sK 8 34 ?_; simp only [pz])
    (refine sK 9 35 ?_; simp only [pz])
    (refine sK 10 36 ?_; simp only [pz])
    (refine sK 11 37 ?_; simp only [pz])
    (refine sK 12 38 ?_; simp only [pz])
    (refine sK 13 39 ?_; simp only [pz])
    (refine sK 14 40 ?_; simp only [pz])
    (refine sK 15 41 ?_; simp only [pz])
    (refine sK 16 42 ?_; simp only [pz])
    (refine tA 17 43 ?_; simp only [pz])
    refine AnyT.done (by kernel_rfl) ?_ _
    clear hHeld
    go_wp2_with fail
    go_ret
    exact ⟨by rw [HF.out]; rfl, HB1.out.drew⟩
   | true =>
    rw [hpl, Bool.true_and] at HAT
    clear hpl
    rcases Nat.eq_zero_or_pos k with rfl | hk0
    ·have HKN := hd_ (show keysTo xs 1 = true from by rw [HNX.out, hkt.out, HAT.out]; rfl)
     go_upto_region 5 with fail
     refine AnyT.region (fun _ => false) (fun _ => True) (by kernel_rfl) trivial (fun hHeld => ?_)
     clear HXC HY
     have HB2 := hd_ (show Below w.heap.size w w1.drew from HB1.out.drew)
     generalize w1.drew = w2 at *
     (refine tA 0 26 ?_; simp only [pz])
     (refine tA 1 27 ?_; simp only [pz])
     (refine tA 2 28 ?_; simp only [pz])
     (refine tA 3 29 ?_; simp only [pz])
     (refine tA 4 30 ?_; simp only [pz])
     (refine tA 5 31 ?_; simp only [pz])
     (refine sK 6 32 ?_; simp only [pz])
     (refine sK 7 33 ?_; simp only [pz])
     (refine sK 8 34 ?_; simp only [pz])
     (refine sK 9 35 ?_; simp only [pz])
     (refine sK 10 36 ?_; simp only [pz])
     (refine sK 11 37 ?_; simp only [pz])
     (refine sK 12 38 ?_; simp only [pz])
     (refine sK 13 39 ?_; simp only [pz])
     (refine sK 14 40 ?_; simp only [pz])
     (refine sK 15 41 ?_; simp only [pz])
     (refine tA 16 42 ?_; simp only [pz])
     (refine tA 17 43 ?_; simp only [pz])
     refine AnyT.done (by kernel_rfl) ?_ _
     clear hHeld
     go_wp2_with fail
     go_roundw
     case rel => exact ⟨1, by omega, by omega, by go_num, hd_ HKN.out, HB2.out⟩
     case measure => simp [intOf]
    ·have i0 : (0 : Int) < (k : Int) := by omega
     have k1 : IntKind.i64.wrap ((k : Int) - 1) = (k : Int) - 1 := IntWalk.i64_in _ (by omega)
     have k2 : ((k : Int) - 1).toNat = k - 1 := by omega
     have k3 : (0 : Int) ≤ (k : Int) - 1 := by omega
     have k6 : 1 ≤ k := by omega
     have k7 : (1 : Int) ≤ (k : Int) := by omega
     have k8 : decide ((0 : Int) < (k : Int)) = true := by rw [decide_eq_true_iff]; omega
     have k9 : decide (0 < k) = true := by rw [decide_eq_true_iff]; omega
     have k4 : (k : Int) - 1 < (xs.length : Int) := by omega
     rw [decide_eq_false (by omega : ¬ k = 0), Bool.false_or] at HAT
     have HYC := hd_ (HY.out hk0)
     unfold ltS at HAT
     have HB2 := hd_ (show Below w.heap.size w w1.drew from HB1.out.drew)
     cases hL : Op.bytesLess Y.toList X.toList <;> rw [hL] at HAT
     ·have HF := hd_ (HM.out _ (show k < min xs.length 7 by omega) HAT.out)
      go_upto_region 5 with fail
      refine AnyT.region (fun _ => false) (fun W => W.cell? ⟨b, off + (k - 1), none⟩ = some (.string Y) ∧ W.cell? ⟨b, off + k, none⟩ = some (.string X)) (by kernel_rfl) ⟨HYC.out, HXC.out⟩ (fun hHeld => ?_)
      clear HXC HY HYC
      generalize w1.drew = w2 at *
      (refine tA 0 26 ?_; simp only [pz])
      (refine tA 1 27 ?_; simp only [pz])
      (refine tA 2 28 ?_; simp only [pz])
      (refine tA 3 29 ?_; simp only [pz])
      (refine tA 4 30 ?_; simp only [pz])
      (refine tA 5 31 ?_; simp only [pz])
      (refine tA 6 32 ?_; simp only [pz])
      (refine tA 7 33 ?_; simp only [pz])
      (refine tA 8 34 ?_; simp only [pz])
      (refine tA 9 35 ?_; simp only [pz])
      (refine tK 10 36 ?_; simp only [pz])
      (refine tA 11 37 ?_; simp only [pz])
      (refine tA 12 38 ?_; simp only [pz])
      (refine tA 13 39 ?_; simp only [pz])
      (refine tK 14 40 ?_; simp only [pz])
      (refine tA 15 41 ?_; simp only [pz])
      (refine tA 16 42 ?_; simp only [pz])
      (refine tA 17 43 ?_; simp only [pz])
      refine AnyT.done (by kernel_rfl) ?_ _
      clear hHeld
      go_wp2_with fail
      go_ret
      exact ⟨by rw [HF.out]; rfl, HB2.out⟩
     ·have HKN := hd_ (show keysTo xs (k + 1) = true from by rw [HNX.out, hkt.out, HAT.out]; rfl)
      go_upto_region 5 with fail
      refine AnyT.region (fun _ => false) (fun W => W.cell? ⟨b, off + (k - 1), none⟩ = some (.string Y) ∧ W.cell? ⟨b, off + k, none⟩ = some (.string X)) (by kernel_rfl) ⟨HYC.out, HXC.out⟩ (fun hHeld => ?_)
      clear HXC HY HYC
      generalize w1.drew = w2 at *
      (refine tA 0 26 ?_; simp only [pz])
      (refine tA 1 27 ?_; simp only [pz])
      (refine tA 2 28 ?_; simp only [pz])
      (refine tA 3 29 ?_; simp only [pz])
      (refine tA 4 30 ?_; simp only [pz])
      (refine tA 5 31 ?_; simp only [pz])
      (refine tA 6 32 ?_; simp only [pz])
      (refine tA 7 33 ?_; simp only [pz])
      (refine tA 8 34 ?_; simp only [pz])
      (refine tA 9 35 ?_; simp only [pz])
      (refine tK 10 36 ?_; simp only [pz])
      (refine tA 11 37 ?_; simp only [pz])
      (refine tA 12 38 ?_; simp only [pz])
      (refine tA 13 39 ?_; simp only [pz])
      (refine tK 14 40 ?_; simp only [pz])
      (refine tA 15 41 ?_; simp only [pz])
      (refine tA 16 42 ?_; simp only [pz])
      (refine tA 17 43 ?_; simp only [pz])
      refine AnyT.done (by kernel_rfl) ?_ _
      clear hHeld
      go_wp2_with fail
      go_roundw
      case rel => exact ⟨k + 1, by omega, by omega, by go_num, hd_ HKN.out, HB2.out⟩
      case measure => simp [intOf]; omega
  ·have HKN := hd_ (show keysTo xs (min xs.length 7) = true by rw [show min xs.length 7 = k by omega]; exact hkt.out)
   clear hb hkt
   by_cases hlt : k < xs.length
   ·have i1 : (k : Int) < (xs.length : Int) := by omega
    have i6 : ¬ (k : Int) ≤ 6 := by omega
    have i7 : ¬ (xs.length : Int) ≤ 6 := by omega
    have HD := hd_ (show decide (xs.length ≤ 6) = false from decide_eq_false (by omega))
    clear hmore
    go_wp2_with fail
    go_ret
    exact ⟨by rw [HKN.out, HD.out]; rfl, HB.out⟩
   ·have i1 : ¬ (k : Int) < (xs.length : Int) := by omega
    by_cases h6 : xs.length ≤ 6
    ·have i7 : (xs.length : Int) ≤ 6 := by omega
     have HD := hd_ (show decide (xs.length ≤ 6) = true from decide_eq_true h6)
     clear hmore h6
     go_wp2_with fail
     go_ret
     exact ⟨by rw [HKN.out, HD.out]; rfl, HB.out⟩
    ·have i7 : ¬ (xs.length : Int) ≤ 6 := by omega
     have HD := hd_ (show decide (xs.length ≤ 6) = false from decide_eq_false h6)
     clear hmore h6
     go_wp2_with fail
     go_ret
     exact ⟨by rw [HKN.out, HD.out]; rfl, HB.out⟩
end Go.Proofs.YtnnabkldceklmaaGreatDoor
/- The reference's PageOk walked. -/
namespace Go.Proofs.YtnnabkldceklmaaGreatDoor
open Go.RowKit
theorem range_next (f : Nat → Bool) (k : Nat) : (List.range (k + 1)).all f = ((List.range k).all f && f k) := by
 rw [List.range_succ, List.all_append]; simp
theorem range_not {f : Nat → Bool} {k n : Nat} (hk : k < n) (h : f k = false) : (List.range n).all f = false := by
 rw [List.all_eq_false]; exact ⟨k, List.mem_range.2 hk, by rw [h]; simp⟩
theorem specPageOk_any (p : TyPage) (vs : List Value) (lo hi : Nat) (w : World) (h : shPage.R w lo hi vs p) (hhi : hi ≤ w.heap.size) (hf : shPage.fit 1048576 p) :
  Calls Tryz.prog 95 #[.agg vs.toArray] w fun e w' => e = .returned (.bool (pageP p)) ∧ Below w.heap.size w w' := by
 obtain ⟨x0, x1, x2, x3⟩ := p
 obtain ⟨A1, c1, A2, c2, A3, c3, rfl, _⟩ := shPage_R.1 h
 have HIN := hd_ (fun a lo hi W => l00InP_any a lo hi W)
 obtain ⟨ANS, hANS⟩ : ∃ b, b = pageS (x0, x1, x2, x3) := ⟨_, rfl⟩
 rw [← pageS_eq, ← hANS]
 unfold pageS at hANS
 dsimp only at hANS
 obtain ⟨_, ⟨hn1, ht1⟩, ⟨hn2, ht2⟩, ⟨hn3, _⟩⟩ := hf
 have hb0 := (Below.refl w.heap.size w).alloc (Nat.le_refl _) (.cells #[.bool x0, .slice A1 x1.length c1, .slice A2 x2.length c2, .slice A3 x3.length c3] 83)
 have HR1 := hd_ (rowR_of ((Sh.row 9 shS).R_below (shPage_f1 h) hb0 hhi))
 have HR2 := hd_ (rowR_of ((Sh.row 9 shS).R_below (shPage_f2 h) hb0 hhi))
 have HR3 := hd_ (rowR_of ((Sh.row 2 shI).R_below (shPage_f3 h) hb0 hhi))
 dsimp only at hn1 hn2 hn3 ht1 ht2
 have HT1 := hd_ ht1; have HT2 := hd_ ht2
 have HB0 := hd_ hb0
 have HBK := hd_ (Blk.new w 83 #[.bool x0, .slice A1 x1.length c1, .slice A2 x2.length c2, .slice A3 x3.length c3])
 have hz0 : (w.alloc (.cells #[.bool x0, .slice A1 x1.length c1, .slice A2 x2.length c2, .slice A3 x3.length c3] 83)).heap.size = w.heap.size + 1 := by simp
 clear h hb0 ht1 ht2
 go_enter Tryz.func95, Tryz.ntmps95
 go_upto_region 1 with fail
 generalize (w.alloc (.cells #[.bool x0, .slice A1 x1.length c1, .slice A2 x2.length c2, .slice A3 x3.length c3] 83)) = w1 at *
 have HF := hd_ (show ∀ W, Below w1.heap.size w1 W → W.cell? ⟨w.heap.size, 0, none⟩ = some (.bool x0) ∧ W.cell? ⟨w.heap.size, 1, none⟩ = some (.slice A1 x1.length c1) ∧ W.cell? ⟨w.heap.size, 2, none⟩ = some (.slice A2 x2.length c2) ∧ W.cell? ⟨w.heap.size, 3, none⟩ = some (.slice A3 x3.length c3) from fun W hW => by
  have hc := (HBK.out.below hW (by omega)).cell
  exact ⟨hc 0, hc 1, hc 2, hc 3⟩)
 have HK := hd_ (l15Keys_any A1 c1 lo hi x1 w1 HR1.out (by omega) (by omega) HT1.out)
 obtain ⟨f0, f1, f2, f3⟩ := HF.out w1 (Below.refl _ _)
 clear HBK
 go_wp2_with fail
 refine HK.out.mono ?_; rintro e1 w2 ⟨rfl, hb2⟩
 have HB2 := hd_ (HB0.out.trans (hb2.mono (by omega)))
 have hr2 := HR2.out.below hb2 (by omega)
 have hr3 := HR3.out.below hb2 (by omega)
 clear f0 f1 f2 f3
 obtain ⟨f0, f1, f2, f3⟩ := HF.out w2 hb2
 have HR2' := hd_ hr2; have HR3' := hd_ hr3
 clear hb2 hr2 hr3 HK HR1 HR2 HR3 HF
 cases hkb : (keysTo x1 (min x1.length 7) && decide (x1.length ≤ 6)) with
 | false =>
  rw [hkb] at hANS
  have HA := hd_ (show ANS = false from hANS)
  clear hANS hkb
  go_wp2_with fail
  go_ret
  exact ⟨by rw [HA.out]; rfl, HB2.out⟩
 | true =>
  rw [hkb, Bool.true_and] at hANS
  clear hkb
  cases x0 with
  | true =>
   rw [if_pos rfl] at hANS
   have HANS := hd_ hANS
   clear hANS
   go_wp2_with fail
   go_loopw [3] (fun i wr => ∃ k : Nat, k ≤ x2.length ∧ k ≤ 7 ∧ i = .int .i64 k ∧ Hid ((List.range k).all (fun k => decide ((x2.getD k bD).size ≤ 64)) = true) ∧ w2 = wr) (fun i _ => 7 - (intOf i).toNat)
   case atStart => exact ⟨0, Nat.zero_le _, by omega, rfl, hd_ rfl, rfl⟩
   case round =>
    obtain ⟨k, hk, hk7, rfl, hkt, rfl⟩ := hrel
    by_cases hmore : k < x2.length ∧ k ≤ 6
    ·obtain ⟨hlt, h6⟩ := hmore
     obtain ⟨b, off, rfl, _, _, hcell⟩ := HR2'.out.at_ hlt
     have i1 : (k : Int) < (x2.length : Int) := by omega
     have i6 : (k : Int) ≤ 6 := by omega
     have hN := range_next (fun k => decide ((x2.getD k bD).size ≤ 64)) k
     have hM := fun h => range_not (f := fun k => decide ((x2.getD k bD).size ≤ 64)) (k := k) (n := min x2.length 7) (by omega) h
     (try dsimp only at hN hM)
     have hXs := HT2.out _ (getD_in (d := bD) hlt)
     have hXs : (x2.getD k bD).size ≤ 1048576 := hXs
     generalize x2.getD k bD = X at *
     by_cases he : X.size ≤ 64
     ·have HKN := hd_ (show (List.range (k + 1)).all (fun k => decide ((x2.getD k bD).size ≤ 64)) = true by rw [hN, hkt.out, decide_eq_true he]; rfl)
      have i2 : ¬ (64 : Int) < (X.size : Int) := by omega
      clear hN hM hkt
      go_wp2_with fail
      go_roundw
      case rel => exact ⟨k + 1, by omega, by omega, by go_num, hd_ HKN.out, by trivial⟩
      case measure => simp [intOf]; omega
     ·have HA := hd_ (show ANS = false by rw [HANS.out, hM (decide_eq_false he)]; rfl)
      have i2 : (64 : Int) < (X.size : Int) := by omega
      clear hN hM hkt
      go_wp2_with fail
      go_ret
      exact ⟨by rw [HA.out]; rfl, HB2.out⟩
    ·have hkm : min x2.length 7 = k := by omega
     have hex : ¬ (k : Int) < (x2.length : Int) ∨ ((k : Int) < (x2.length : Int) ∧ ¬ (k : Int) ≤ 6) := by omega
     have HA := hd_ (show ANS = (decide (x2.length = x1.length) && decide (x3.length = 0)) by rw [HANS.out, hkm, hkt.out]; rfl)
     clear hkt hmore hkm
     by_cases hvl : x2.length = x1.length
     ·have q1 : ((x2.length : Int) == (x1.length : Int)) = true := by simp [hvl]
      rw [decide_eq_true hvl, Bool.true_and] at HA
      have HQ := hd_ (show ((x3.length : Int) == 0) = decide (x3.length = 0) by rw [Bool.eq_iff_iff]; simp)
      clear hvl
      generalize decide (x3.length = 0) = BB at *
      rcases hex with i1 | ⟨i1, i6⟩
      ·go_wp2_with fail
       go_ret
       exact ⟨by rw [HA.out]; first | rfl | rw [← HQ.out]; rfl, HB2.out⟩
      ·go_wp2_with fail
       go_ret
       exact ⟨by rw [HA.out]; first | rfl | rw [← HQ.out]; rfl, HB2.out⟩
     ·have q1 : ((x2.length : Int) == (x1.length : Int)) = false := by rw [beq_eq_false_iff_ne]; omega
      rw [decide_eq_false hvl, Bool.false_and] at HA
      clear hvl
      rcases hex with i1 | ⟨i1, i6⟩
      ·go_wp2_with fail
       go_ret
       exact ⟨by rw [HA.out]; rfl, HB2.out⟩
      ·go_wp2_with fail
       go_ret
       exact ⟨by rw [HA.out]; rfl, HB2.out⟩
  | false =>
   rw [if_neg (by simp)] at hANS
   have HANS := hd_ hANS
   clear hANS
   go_wp2_with fail
   go_loopw [4] (fun i wr => ∃ k : Nat, k ≤ x3.length ∧ k ≤ 7 ∧ i = .int .i64 k ∧ Hid ((List.range k).all (fun k => inB (x3.getD k 0) 1 64) = true) ∧ w2 = wr) (fun i _ => 7 - (intOf i).toNat)
   case atStart => exact ⟨0, Nat.zero_le _, by omega, rfl, hd_ rfl, rfl⟩
   case round =>
    obtain ⟨k, hk, hk7, rfl, hkt, rfl⟩ := hrel
    by_cases hmore : k < x3.length ∧ k ≤ 6
    ·obtain ⟨hlt, h6⟩ := hmore
     obtain ⟨b, off, rfl, _, _, hcell⟩ := HR3'.out.at_ hlt
     have i1 : (k : Int) < (x3.length : Int) := by omega
     have i6 : (k : Int) ≤ 6 := by omega
     have hN := range_next (fun k => inB (x3.getD k 0) 1 64) k
     have hM := fun h => range_not (f := fun k => inB (x3.getD k 0) 1 64) (k := k) (n := min x3.length 7) (by omega) h
     (try dsimp only at hN hM)
     generalize x3.getD k 0 = y at *
     by_cases he : inB y 1 64 = true
     ·have HKN := hd_ (show (List.range (k + 1)).all (fun k => inB (x3.getD k 0) 1 64) = true by rw [hN, hkt.out, he]; rfl)
      clear hN hM hkt
      go_wp2_with (first | fail | (refine (HIN.out _ _ _ _).mono ?_; rintro e1 w3 ⟨rfl, rfl⟩; rw [he]))
      go_roundw
      case rel => exact ⟨k + 1, by omega, by omega, by go_num, hd_ HKN.out, by trivial⟩
      case measure => simp [intOf]; omega
     ·have he := Bool.eq_false_iff.2 he
      have HA := hd_ (show ANS = false by rw [HANS.out, hM he]; rfl)
      clear hN hM hkt
      go_wp2_with (first | fail | (refine (HIN.out _ _ _ _).mono ?_; rintro e1 w3 ⟨rfl, rfl⟩; rw [he]))
      go_ret
      exact ⟨by rw [HA.out]; rfl, HB2.out⟩
    ·have hkm : min x3.length 7 = k := by omega
     have hex : ¬ (k : Int) < (x3.length : Int) ∨ ((k : Int) < (x3.length : Int) ∧ ¬ (k : Int) ≤ 6) := by omega
     have HA := hd_ (show ANS = (inB (x3.length : Int) 2 6 && decide (x1.length + 1 = x3.length) && decide (x2.length = 0)) by
      rw [HANS.out, hkm, hkt.out, Bool.true_and]
      have : (decide (2 ≤ x3.length) && decide (x3.length ≤ 6)) = inB (x3.length : Int) 2 6 := by unfold inB; rw [Bool.eq_iff_iff]; simp; omega
      rw [this])
     clear hkt hmore hkm HANS
     by_cases hq : inB (x3.length : Int) 2 6 = true
     ·rw [hq, Bool.true_and] at HA
      by_cases hvl : x1.length + 1 = x3.length
      ·have q1 : ((x1.length : Int) == (x3.length : Int) - 1) = true := by rw [beq_iff_eq]; omega
       have q2 : IntKind.i64.wrap ((x3.length : Int) - 1) = (x3.length : Int) - 1 := IntWalk.i64_in _ (by omega)
       rw [decide_eq_true hvl, Bool.true_and] at HA
       by_cases h0 : x2.length = 0
       ·have q3 : ((x2.length : Int) == 0) = true := by rw [beq_iff_eq]; omega
        rw [decide_eq_true h0] at HA
        clear hvl h0
        rcases hex with i1 | ⟨i1, i6⟩
        ·go_wp2_with (first | fail | (refine (HIN.out _ _ _ _).mono ?_; rintro e1 w3 ⟨rfl, rfl⟩; rw [hq]))
         go_ret
         exact ⟨by rw [HA.out]; rfl, HB2.out⟩
        ·go_wp2_with (first | fail | (refine (HIN.out _ _ _ _).mono ?_; rintro e1 w3 ⟨rfl, rfl⟩; rw [hq]))
         go_ret
         exact ⟨by rw [HA.out]; rfl, HB2.out⟩
       ·have q3 : ((x2.length : Int) == 0) = false := by rw [beq_eq_false_iff_ne]; omega
        rw [decide_eq_false h0] at HA
        clear hvl h0
        rcases hex with i1 | ⟨i1, i6⟩
        ·go_wp2_with (first | fail | (refine (HIN.out _ _ _ _).mono ?_; rintro e1 w3 ⟨rfl, rfl⟩; rw [hq]))
         go_ret
         exact ⟨by rw [HA.out]; rfl, HB2.out⟩
        ·go_wp2_with (first | fail | (refine (HIN.out _ _ _ _).mono ?_; rintro e1 w3 ⟨rfl, rfl⟩; rw [hq]))
         go_ret
         exact ⟨by rw [HA.out]; rfl, HB2.out⟩
      ·have q1 : ((x1.length : Int) == (x3.length : Int) - 1) = false := by rw [beq_eq_false_iff_ne]; omega
       have q2 : IntKind.i64.wrap ((x3.length : Int) - 1) = (x3.length : Int) - 1 := IntWalk.i64_in _ (by omega)
       rw [decide_eq_false hvl, Bool.false_and] at HA
       clear hvl
       rcases hex with i1 | ⟨i1, i6⟩
       ·go_wp2_with (first | fail | (refine (HIN.out _ _ _ _).mono ?_; rintro e1 w3 ⟨rfl, rfl⟩; rw [hq]))
        go_ret
        exact ⟨by rw [HA.out]; rfl, HB2.out⟩
       ·go_wp2_with (first | fail | (refine (HIN.out _ _ _ _).mono ?_; rintro e1 w3 ⟨rfl, rfl⟩; rw [hq]))
        go_ret
        exact ⟨by rw [HA.out]; rfl, HB2.out⟩
     ·have hq2 := Bool.eq_false_iff.2 hq
      rw [hq2, Bool.false_and, Bool.false_and] at HA
      have HIN2 := hd_ (fun W => l00InP_any (x3.length : Int) 2 6 W)
      rw [hq2] at HIN2
      clear hq hq2 HIN
      rcases hex with i1 | ⟨i1, i6⟩
      ·go_wp2_with fail
       refine (HIN2.out _).mono ?_; rintro e1 w3 ⟨rfl, rfl⟩
       clear i1
       go_wp2_with fail
       go_ret
       exact ⟨by rw [HA.out]; rfl, HB2.out⟩
      ·go_wp2_with fail
       refine (HIN2.out _).mono ?_; rintro e1 w3 ⟨rfl, rfl⟩
       clear i1 i6
       go_wp2_with fail
       go_ret
       exact ⟨by rw [HA.out]; rfl, HB2.out⟩
end Go.Proofs.YtnnabkldceklmaaGreatDoor
/- An argument that came in, opened as a shape: texts, numbers, truth values, slices, structs; over any program. -/
namespace Go.Proofs.YtnnabkldceklmaaGreatDoor
open Go.ChangeShapes Go.WideShapes Go.ChangeAt Go.RowKit Go.Deep
section
variable {H : Type} {enc : TypeId × Value → H} {P : Program} {w : World} {base : Nat} {held : Bool} {α β : Type} {s : Sh α} {s' : Sh β} {t : TypeId}
structure Opn (enc : TypeId × Value → H) (P : Program) (w : World) (base : Nat) (held : Bool) (t : TypeId) (s : Sh α) : Prop where
 cells : P.cellsOf t = s.k
 opn : ∀ {fuel : Nat} {cs : List Value} {x : DataW H × List MemPlace}, DataW.trod enc P w base (fun _ => true) held fuel t cs = some x → ∃ y, s.R w 0 w.heap.size cs y ∧ s.fit 9223372036854775807 y
def OpnF (enc : TypeId × Value → H) (P : Program) (w : World) (base : Nat) (held : Bool) (l : List (TypeId × Nat)) (o : Nat) (s : Sh α) : Prop :=
 ∀ cs : List Value, cs.length = o + s.k → (∀ (i : Nat) (t : TypeId) (o' : Nat), l[i]? = some (t, o') → ∃ n x, DataW.trod enc P w base (fun _ => true) held n t ((cs.drop o').take (P.cellsOf t)) = some x) →
  ∃ y, s.R w 0 w.heap.size (cs.drop o) y ∧ s.fit 9223372036854775807 y
theorem opnF_one (o : Nat) (h : Opn enc P w base held t s) : OpnF enc P w base held [(t, o)] o s := fun cs hl hf => by
 obtain ⟨n, x, hx⟩ := hf 0 t o rfl
 rw [h.cells, List.take_of_length_le (by simp; omega)] at hx
 exact h.opn hx
theorem opnF_cons {l : List (TypeId × Nat)} {o o' : Nat} (h : Opn enc P w base held t s) (hl : OpnF enc P w base held l o' s') (ho : o' = o + s.k) : OpnF enc P w base held ((t, o) :: l) o (s.prod s') := fun cs hn hf => by
 subst ho
 obtain ⟨n, x, hx⟩ := hf 0 t o rfl
 rw [h.cells] at hx
 obtain ⟨y, hy, fy⟩ := h.opn hx
 obtain ⟨z, hz, fz⟩ := hl cs (by rw [hn]; show o + (s.k + s'.k) = _; omega) (fun i t o' hi => hf (i + 1) t o' hi)
 refine ⟨(y, z), ⟨_, _, ?_, hy, hz⟩, fy, fz⟩
 rw [← List.drop_drop, List.take_append_drop]
theorem opn_struct {fs : Array Field} {l : List (TypeId × Nat)} (hu : P.underlying t = some (.struct fs)) (hfs : fs.toList.map (fun f => (f.type, f.offset)) = l) (hc : P.cellsOf t = s.k) (h : OpnF enc P w base held l 0 s) : Opn enc P w base held t s :=
 ⟨hc, fun {fuel cs x} hx => by
  obtain ⟨xs, n, _, _, hlen, hxl, hg⟩ := DataW.trod_struct hu hx
  have F := field_of hfs hxl hg
  obtain ⟨y, h1, h2⟩ := h cs (by rw [hlen, hc]; omega) (fun i t o' hi => ⟨n, F i t o' hi⟩)
  exact ⟨y, h1, h2⟩⟩
theorem opn_S (hu : P.underlying t = some .string) (hc : P.cellsOf t = 1) : Opn enc P w base held t shS := ⟨hc, fun h => by
 obtain ⟨x, rfl, hx⟩ := open_str hu h
 exact ⟨x, rfl, hx⟩⟩
theorem opn_I (hu : P.underlying t = some (.int .i64)) (hc : P.cellsOf t = 1) : Opn enc P w base held t shI := ⟨hc, fun h => by
 obtain ⟨x, rfl, hx⟩ := open_i64 hu h
 exact ⟨x, rfl, by show (0 : Nat) ≤ _; omega⟩⟩
theorem opn_B (hu : P.underlying t = some .bool) (hc : P.cellsOf t = 1) : Opn enc P w base held t shB := ⟨hc, fun h => by
 obtain ⟨x, h1, h2⟩ := DataW.trod_bool hu h
 subst h1
 exact ⟨x, rfl, by show (0 : Nat) ≤ _; omega⟩⟩
theorem list_each {α : Type} (d : α) (Q : Nat → α → Prop) : ∀ n : Nat, (∀ i, i < n → ∃ x, Q i x) → ∃ xs : List α, xs.length = n ∧ ∀ i, i < n → Q i (xs.getD i d)
 | 0, _ => ⟨[], rfl, fun i hi => absurd hi (by omega)⟩
 | n + 1, h => by
  obtain ⟨xs, hl, hx⟩ := list_each d Q n (fun i hi => h i (by omega))
  obtain ⟨y, hy⟩ := h n (by omega)
  refine ⟨xs ++ [y], by simp [hl], fun i hi => ?_⟩
  by_cases e : i < n
  ·have : (xs ++ [y]).getD i d = xs.getD i d := by
    rw [List.getD_eq_getElem?_getD, List.getD_eq_getElem?_getD, List.getElem?_append_left (by omega)]
   rw [this]; exact hx i e
  ·obtain rfl : i = n := by omega
   have : (xs ++ [y]).getD i d = y := by
    rw [List.getD_eq_getElem?_getD, List.getElem?_append_right (by omega), hl]; simp
   rw [this]; exact hy
theorem opn_row {e te : TypeId} (hu : P.underlying t = some (.slice e)) (hc : P.cellsOf t = 1) (hk : 0 < s.k) (h : Opn enc P w base held e s) : Opn enc P w base held t (Sh.row te s) := ⟨hc, fun {fuel cs x} hx => by
 rcases open_slice hu hx with ⟨rfl, _⟩ | ⟨a, len, cap, m, n, D, Pl, rfl, hb, hl, hm, hmm, _, hi⟩
 ·exact ⟨[], ⟨none, 0, rfl, fun h => absurd h (by simp)⟩, by simp, fun x hx => by cases hx⟩
 ·simp only [if_true] at hmm
  subst hmm
  have hsp0 : 0 < len → a.spot = none ∧ a.block < w.heap.size := fun h0 => by
   obtain ⟨cs', hc', ht'⟩ := hi 0 (by omega)
   obtain ⟨_, hl0, hat⟩ := World.cells?_some hc'
   rw [h.cells] at hl0 hat
   have h00 := hat 0 (by omega)
   obtain ⟨v, hv⟩ : ∃ v, cs'[0]? = some v := ⟨_, List.getElem?_eq_getElem (by omega)⟩
   rw [hv, Nat.zero_mul] at h00
   have e0 : a.add 0 = a := by simp [Addr.add]
   rw [e0, e0] at h00
   have := block_of_cell h00
   exact ⟨this.2, this.1⟩
  have each : ∀ i, i < len → ∃ y, (s.fit 9223372036854775807 y ∧ a.spot = none ∧ a.block < w.heap.size) ∧ ∃ us, CellsAt w a.block (a.off + i * s.k) us ∧ s.R w 0 w.heap.size us y := by
   intro i hil
   obtain ⟨cs', hc', ht'⟩ := hi i (by omega)
   obtain ⟨y, hy, hf⟩ := h.opn ht'
   obtain ⟨_, hl0, hat⟩ := World.cells?_some hc'
   rw [h.cells] at hl0 hat
   have hsp := hsp0 (by omega)
   obtain ⟨ab, ao, asp⟩ := a
   obtain ⟨e1, e2⟩ := hsp
   simp only at e1 e2
   subst e1
   refine ⟨y, ⟨hf, rfl, e2⟩, cs', fun j hj => ?_, hy⟩
   have := hat j (by omega)
   have hadd : ∀ o j, (⟨ab, o, none⟩ : Addr).add j = ⟨ab, o + j, none⟩ := fun o j => by unfold Addr.add; split <;> simp_all
   rw [hadd, hadd] at this
   exact this
  obtain ⟨xs, hxl, hxs⟩ := list_each s.d (fun i y => (s.fit 9223372036854775807 y ∧ a.spot = none ∧ a.block < w.heap.size) ∧ ∃ us, CellsAt w a.block (a.off + i * s.k) us ∧ s.R w 0 w.heap.size us y) len each
  refine ⟨xs, ⟨some a, _, by rw [hxl], fun hpos => ?_⟩, by unfold maxLen at hm; omega, fun y hy => ?_⟩
  ·obtain ⟨⟨_, hsp, hlt⟩, _⟩ := hxs 0 (by omega)
   obtain ⟨ab, ao, asp⟩ := a
   simp only at hsp
   subst hsp
   exact ⟨ab, ao, rfl, by omega, hlt, fun j hj => (hxs j (by omega)).2⟩
  ·obtain ⟨j, hj, e⟩ := List.getElem_of_mem hy
   have := (hxs j (by omega)).1.1
   rw [List.getD_eq_getElem?_getD, List.getElem?_eq_getElem hj] at this
   rw [← e]; exact this⟩
end
end Go.Proofs.YtnnabkldceklmaaGreatDoor
/- The arguments of FnExactBeginTop, opened as shapes. Printed by gen_proofo.py. -/
namespace Go.Proofs.YtnnabkldceklmaaGreatDoor
open Go.ChangeShapes Go.WideShapes Go.ChangeAt Go.RowKit
section
variable {H : Type} {enc : TypeId × Value → H} {w : World} {base : Nat} {held : Bool}
theorem opnPut : Opn enc Tryz.prog w base held 177 shPut :=
 opn_struct (l := [(2, 0), (9, 1)]) Tryz.underlying177 (by kernel_rfl) (by kernel_rfl) (opnF_cons (o := 0) (opn_I Tryz.underlying2 (by kernel_rfl)) (opnF_one 1 (opn_S Tryz.underlying9 (by kernel_rfl))) rfl)
theorem opnDisk : Opn enc Tryz.prog w base held 25 shDisk :=
 opn_struct (l := [(2, 0), (22, 1), (23, 2)]) Tryz.underlying25 (by kernel_rfl) (by kernel_rfl) (opnF_cons (o := 0) (opn_I Tryz.underlying2 (by kernel_rfl)) (opnF_cons (o := 1) (opn_row (te := 9) Tryz.underlying22 (by kernel_rfl) (by decide) (opn_S Tryz.underlying9 (by kernel_rfl))) (opnF_one 2 (opn_row (te := 138) Tryz.underlying23 (by kernel_rfl) (by decide) opnPut)) rfl) rfl)
theorem opnSeat : Opn enc Tryz.prog w base held 144 shSeat :=
 opn_struct (l := [(2, 0), (2, 1)]) Tryz.underlying144 (by kernel_rfl) (by kernel_rfl) (opnF_cons (o := 0) (opn_I Tryz.underlying2 (by kernel_rfl)) (opnF_one 1 (opn_I Tryz.underlying2 (by kernel_rfl))) rfl)
theorem opnTop : Opn enc Tryz.prog w base held 28 shTop :=
 opn_struct (l := [(2, 0), (2, 1), (2, 2), (26, 3)]) Tryz.underlying28 (by kernel_rfl) (by kernel_rfl) (opnF_cons (o := 0) (opn_I Tryz.underlying2 (by kernel_rfl)) (opnF_cons (o := 1) (opn_I Tryz.underlying2 (by kernel_rfl)) (opnF_cons (o := 2) (opn_I Tryz.underlying2 (by kernel_rfl)) (opnF_one 3 (opn_row (te := 88) Tryz.underlying26 (by kernel_rfl) (by decide) opnSeat)) rfl) rfl) rfl)
theorem opnCache : Opn enc Tryz.prog w base held 31 shCache :=
 opn_struct (l := [(25, 0), (28, 3), (28, 7), (26, 11), (29, 12)]) Tryz.underlying31 (by kernel_rfl) (by kernel_rfl) (opnF_cons (o := 0) opnDisk (opnF_cons (o := 3) opnTop (opnF_cons (o := 7) opnTop (opnF_cons (o := 11) (opn_row (te := 88) Tryz.underlying26 (by kernel_rfl) (by decide) opnSeat) (opnF_one 12 (opn_row (te := 2) Tryz.underlying29 (by kernel_rfl) (by decide) (opn_I Tryz.underlying2 (by kernel_rfl)))) rfl) rfl) rfl) rfl)
theorem opnPage : Opn enc Tryz.prog w base held 122 shPage :=
 opn_struct (l := [(4, 0), (22, 1), (22, 2), (29, 3)]) Tryz.underlying122 (by kernel_rfl) (by kernel_rfl) (opnF_cons (o := 0) (opn_B Tryz.underlying4 (by kernel_rfl)) (opnF_cons (o := 1) (opn_row (te := 9) Tryz.underlying22 (by kernel_rfl) (by decide) (opn_S Tryz.underlying9 (by kernel_rfl))) (opnF_cons (o := 2) (opn_row (te := 9) Tryz.underlying22 (by kernel_rfl) (by decide) (opn_S Tryz.underlying9 (by kernel_rfl))) (opnF_one 3 (opn_row (te := 2) Tryz.underlying29 (by kernel_rfl) (by decide) (opn_I Tryz.underlying2 (by kernel_rfl)))) rfl) rfl) rfl)
theorem opnSlot : Opn enc Tryz.prog w base held 124 shSlot :=
 opn_struct (l := [(2, 0), (122, 1)]) Tryz.underlying124 (by kernel_rfl) (by kernel_rfl) (opnF_cons (o := 0) (opn_I Tryz.underlying2 (by kernel_rfl)) (opnF_one 1 opnPage) rfl)
theorem opnBtree : Opn enc Tryz.prog w base held 34 shBtree :=
 opn_struct (l := [(2, 0), (32, 1)]) Tryz.underlying34 (by kernel_rfl) (by kernel_rfl) (opnF_cons (o := 0) (opn_I Tryz.underlying2 (by kernel_rfl)) (opnF_one 1 (opn_row (te := 85) Tryz.underlying32 (by kernel_rfl) (by decide) opnSlot)) rfl)
end
end Go.Proofs.YtnnabkldceklmaaGreatDoor
