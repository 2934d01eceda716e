/- The reference's CacheOk walked. -/
import Derived.Test.YtnnabkldceklmaaGreatDoorJoinBTAx
namespace Go.Proofs.YtnnabkldceklmaaGreatDoor
open Go.RowKit
set_option maxHeartbeats 16000000 in
set_option maxRecDepth 100000 in
theorem specCacheOk_any (X : TyCache) (vs : List Value) (lo hi : Nat) (w : World) (h : shCache.R w lo hi vs X) (hhi : hi ≤ w.heap.size) (hf : shCache.fit 1048576 X) :
  Calls Tryz.prog 37 #[.agg vs.toArray] w fun e w' => e = .returned (.bool (cacheP X)) ∧ Below w.heap.size w w' := by
 obtain ⟨⟨x0, x1, x2⟩, ⟨x3, x4, x5, x6⟩, ⟨x7, x8, x9, x10⟩, x11, x12⟩ := X
 obtain ⟨A1, c1, A2, c2, A6, c6, A10, c10, A11, c11, A12, c12, rfl, _⟩ := shCache_R.1 h
 rw [← cacheS_eq]
 obtain ⟨⟨_, ⟨hn1, ht1⟩, ⟨hn2, ht2⟩⟩, ⟨_, _, _, ⟨hn6, _⟩⟩, ⟨_, _, _, ⟨hn10, _⟩⟩, ⟨hn11, _⟩, ⟨hn12, _⟩⟩ := hf
 dsimp only at hn1 ht1 hn2 ht2 hn6 hn10 hn11 hn12
 have hp2 : ∀ x ∈ x2, x.2.size ≤ 1048576 := fun x hx => (ht2 x hx).2
 have hp1 : ∀ x ∈ x1, x.size ≤ 1048576 := fun x hx => ht1 x hx
 have hb0 := (Below.refl w.heap.size w).alloc (Nat.le_refl _) (.cells #[.int .i64 x0, .slice A1 x1.length c1, .slice A2 x2.length c2, .int .i64 x3, .int .i64 x4, .int .i64 x5, .slice A6 x6.length c6, .int .i64 x7, .int .i64 x8, .int .i64 x9, .slice A10 x10.length c10, .slice A11 x11.length c11, .slice A12 x12.length c12] 44)
 have hz0 : (w.alloc (.cells #[.int .i64 x0, .slice A1 x1.length c1, .slice A2 x2.length c2, .int .i64 x3, .int .i64 x4, .int .i64 x5, .slice A6 x6.length c6, .int .i64 x7, .int .i64 x8, .int .i64 x9, .slice A10 x10.length c10, .slice A11 x11.length c11, .slice A12 x12.length c12] 44)).heap.size = w.heap.size + 1 := by simp
 have HBK := hd_ (Blk.new w 44 #[.int .i64 x0, .slice A1 x1.length c1, .slice A2 x2.length c2, .int .i64 x3, .int .i64 x4, .int .i64 x5, .slice A6 x6.length c6, .int .i64 x7, .int .i64 x8, .int .i64 x9, .slice A10 x10.length c10, .slice A11 x11.length c11, .slice A12 x12.length c12])
 have HRC := hd_ (shCache.R_below h hb0 hhi)
 have HB0 := hd_ hb0
 obtain ⟨ALL, hALL⟩ : ∃ b, b = cacheT ((x0, x1, x2), (x3, x4, x5, x6), (x7, x8, x9, x10), x11, x12) := ⟨_, rfl⟩
 have HANS := hd_ (show cacheS ((x0, x1, x2), (x3, x4, x5, x6), (x7, x8, x9, x10), x11, x12) = (ALL && (apartP x11 x6 && (belowP x6 (x1.length : Int) && (belowP x10 (x1.length : Int) && belowP x11 (x1.length : Int))))) by rw [hALL]; rfl)
 obtain ⟨ANS, hANS⟩ : ∃ b, b = cacheS ((x0, x1, x2), (x3, x4, x5, x6), (x7, x8, x9, x10), x11, x12) := ⟨_, rfl⟩
 rw [← hANS]
 have HANS := hd_ (hANS.trans HANS.out)
 clear hANS
 unfold cacheT at hALL
 dsimp only at hALL
 clear h hb0 ht1 ht2
 go_enter Tryz.func37, Tryz.ntmps37
 (try dsimp only [List.append])
 go_upto_region 1 with fail
 generalize (w.alloc (.cells #[.int .i64 x0, .slice A1 x1.length c1, .slice A2 x2.length c2, .int .i64 x3, .int .i64 x4, .int .i64 x5, .slice A6 x6.length c6, .int .i64 x7, .int .i64 x8, .int .i64 x9, .slice A10 x10.length c10, .slice A11 x11.length c11, .slice A12 x12.length c12] 44)) = w1 at *
 have HF := hd_ (show ∀ W, Below w1.heap.size w1 W → ∀ i, W.cell? ⟨w.heap.size, i, none⟩ = (#[.int .i64 x0, .slice A1 x1.length c1, .slice A2 x2.length c2, .int .i64 x3, .int .i64 x4, .int .i64 x5, .slice A6 x6.length c6, .int .i64 x7, .int .i64 x8, .int .i64 x9, .slice A10 x10.length c10, .slice A11 x11.length c11, .slice A12 x12.length c12] : Array Value)[i]? from fun W hW => (HBK.out.below hW (by omega)).cell)
 have HRW := hd_ (show ∀ W, Below w1.heap.size w1 W → shCache.R W lo hi _ ((x0, x1, x2), (x3, x4, x5, x6), (x7, x8, x9, x10), x11, x12) from fun W hW => shCache.R_below HRC.out hW (by omega))
 have HD := hd_ (fun W (hW : Below w1.heap.size w1 W) => specDiskOk_any x0 x1 x2 A1 c1 A2 c2 lo hi W (shCache_f0 (HRW.out W hW)) (by have := hW.size; omega) hn1 hn2 hp1 hp2)
 have HT := hd_ (fun W (hW : Below w1.heap.size w1 W) => specTopOk_any (x3, x4, x5, x6) _ lo hi W (shCache_f3 (HRW.out W hW)) (by have := hW.size; omega) hn6)
 have HZ := hd_ (fun W (hW : Below w1.heap.size w1 W) => l18Zero_any (x7, x8, x9, x10) _ lo hi W (shCache_f7 (HRW.out W hW)))
 have HC := hd_ (fun W (hW : Below w1.heap.size w1 W) => specTopOk_any (x7, x8, x9, x10) _ lo hi W (shCache_f7 (HRW.out W hW)) (by have := hW.size; omega) hn10)
 have HS := hd_ (fun W (hW : Below w1.heap.size w1 W) => l18Seats_any A11 c11 x11 lo hi W (shCache_f11 (HRW.out W hW)) (by have := hW.size; omega) hn11)
 have HR := hd_ (fun W (hW : Below w1.heap.size w1 W) => l00Rises_any A12 c12 x12 lo hi W (shCache_f12 (HRW.out W hW)) (by have := hW.size; omega) hn12)
 have f := HF.out w1 (Below.refl _ _)
 have HB1 := hd_ (Below.refl w1.heap.size w1)
 clear HBK HRC
 go_upto_region 2 with fail
 go_cut [52] (fun bb wr => bb = .bool (!ALL) ∧ Below w1.heap.size w1 wr)
 case first =>
  clear HANS
  cases hd : diskP (x0, x1, x2) with
  | false =>
   have HK := hd_ (show ALL = false by rw [hALL, hd]; rfl)
   go_wp2_with fail
   refine (HD.out _ HB1.out).mono ?_; rintro e1 v1 ⟨rfl, hb1⟩
   rw [hd]
   have HV1 := hd_ (HB1.out.trans (hb1.mono HB1.out.size))
   clear hb1 f
   have f := HF.out _ HV1.out
   go_wp2_with fail
   go_meet
   case rel => exact ⟨by rw [HK.out]; first | rfl | (rw [show decide ((x1.length : Int) < 4) = false from decide_eq_false (by omega)]; rfl), HV1.out⟩
  | true =>
  by_cases hw : x0 = 1700
  rotate_left
  ·have q1 : (x0 != 1700) = true := by simp [hw]
   have HK := hd_ (show ALL = false by rw [hALL, decide_eq_false hw, Bool.false_and, Bool.and_false])
   go_wp2_with fail
   refine (HD.out _ HB1.out).mono ?_; rintro e1 v1 ⟨rfl, hb1⟩
   rw [hd]
   have HV1 := hd_ (HB1.out.trans (hb1.mono HB1.out.size))
   clear hb1 f
   have f := HF.out _ HV1.out
   go_wp2_with fail
   go_meet
   case rel => exact ⟨by rw [HK.out]; first | rfl | (rw [show decide ((x1.length : Int) < 4) = false from decide_eq_false (by omega)]; rfl), HV1.out⟩
  have q1 : (x0 != 1700) = false := by simp [hw]
  have HW := hd_ hw; clear hw
  by_cases hl : 4 ≤ x1.length
  rotate_left
  ·have q2 : (x1.length : Int) < 4 := by omega
   have HK := hd_ (show ALL = false by rw [hALL, decide_eq_false hl, Bool.false_and, Bool.and_false, Bool.and_false])
   go_wp2_with fail
   refine (HD.out _ HB1.out).mono ?_; rintro e1 v1 ⟨rfl, hb1⟩
   rw [hd]
   have HV1 := hd_ (HB1.out.trans (hb1.mono HB1.out.size))
   clear hb1 f
   have f := HF.out _ HV1.out
   go_wp2_with fail
   go_meet
   case rel => exact ⟨by rw [HK.out]; first | rfl | (rw [show decide ((x1.length : Int) < 4) = false from decide_eq_false (by omega)]; rfl), HV1.out⟩
  have q2 : ¬ (x1.length : Int) < 4 := by omega
  cases ht : topP (x3, x4, x5, x6) with
  | false =>
   have HK := hd_ (show ALL = false by rw [hALL, ht]; simp)
   go_wp2_with fail
   refine (HD.out _ HB1.out).mono ?_; rintro e1 v1 ⟨rfl, hb1⟩
   rw [hd]
   have HV1 := hd_ (HB1.out.trans (hb1.mono HB1.out.size))
   clear hb1 f
   have f := HF.out _ HV1.out
   go_wp2_with fail
   refine (HT.out _ HV1.out).mono ?_; rintro e2 v2 ⟨rfl, hb2⟩
   rw [ht]
   have HV2 := hd_ (HV1.out.trans (hb2.mono HV1.out.size))
   clear hb2 f
   have f := HF.out _ HV2.out
   go_wp2_with fail
   go_meet
   case rel => exact ⟨by rw [HK.out]; first | rfl | (rw [show decide ((x1.length : Int) < 4) = false from decide_eq_false (by omega)]; rfl), HV2.out⟩
  | true =>
  cases hz : zeroT (x7, x8, x9, x10) with
  | false =>
   cases hc : topP (x7, x8, x9, x10) with
   | false =>
    have HK := hd_ (show ALL = false by rw [hALL, hz, hc]; simp)
    go_wp2_with fail
    refine (HD.out _ HB1.out).mono ?_; rintro e1 v1 ⟨rfl, hb1⟩
    rw [hd]
    have HV1 := hd_ (HB1.out.trans (hb1.mono HB1.out.size))
    clear hb1 f
    have f := HF.out _ HV1.out
    go_wp2_with fail
    refine (HT.out _ HV1.out).mono ?_; rintro e2 v2 ⟨rfl, hb2⟩
    rw [ht]
    have HV2 := hd_ (HV1.out.trans (hb2.mono HV1.out.size))
    clear hb2 f
    have f := HF.out _ HV2.out
    go_wp2_with fail
    refine (HZ.out _ HV2.out).mono ?_; rintro e3 v3 ⟨rfl, hb3⟩
    rw [hz]
    have HV3 := hd_ (HV2.out.trans (hb3.mono HV2.out.size))
    clear hb3 f
    have f := HF.out _ HV3.out
    go_wp2_with fail
    refine (HC.out _ HV3.out).mono ?_; rintro e4 v4 ⟨rfl, hb4⟩
    rw [hc]
    have HV4 := hd_ (HV3.out.trans (hb4.mono HV3.out.size))
    clear hb4 f
    have f := HF.out _ HV4.out
    go_wp2_with fail
    go_meet
    case rel => exact ⟨by rw [HK.out]; first | rfl | (rw [show decide ((x1.length : Int) < 4) = false from decide_eq_false (by omega)]; rfl), HV4.out⟩
   | true =>
    cases hs : seatsP x11 with
    | false =>
     have HK := hd_ (show ALL = false by rw [hALL, hs]; simp)
     go_wp2_with fail
     refine (HD.out _ HB1.out).mono ?_; rintro e1 v1 ⟨rfl, hb1⟩
     rw [hd]
     have HV1 := hd_ (HB1.out.trans (hb1.mono HB1.out.size))
     clear hb1 f
     have f := HF.out _ HV1.out
     go_wp2_with fail
     refine (HT.out _ HV1.out).mono ?_; rintro e2 v2 ⟨rfl, hb2⟩
     rw [ht]
     have HV2 := hd_ (HV1.out.trans (hb2.mono HV1.out.size))
     clear hb2 f
     have f := HF.out _ HV2.out
     go_wp2_with fail
     refine (HZ.out _ HV2.out).mono ?_; rintro e3 v3 ⟨rfl, hb3⟩
     rw [hz]
     have HV3 := hd_ (HV2.out.trans (hb3.mono HV2.out.size))
     clear hb3 f
     have f := HF.out _ HV3.out
     go_wp2_with fail
     refine (HC.out _ HV3.out).mono ?_; rintro e4 v4 ⟨rfl, hb4⟩
     rw [hc]
     have HV4 := hd_ (HV3.out.trans (hb4.mono HV3.out.size))
     clear hb4 f
     have f := HF.out _ HV4.out
     go_wp2_with fail
     refine (HS.out _ HV4.out).mono ?_; rintro e5 v5 ⟨rfl, hb5⟩
     rw [hs]
     have HV5 := hd_ (HV4.out.trans (hb5.mono HV4.out.size))
     clear hb5 f
     have f := HF.out _ HV5.out
     go_wp2_with fail
     go_meet
     case rel => exact ⟨by rw [HK.out]; first | rfl | (rw [show decide ((x1.length : Int) < 4) = false from decide_eq_false (by omega)]; rfl), HV5.out⟩
    | true =>
     cases hr : (risesI x12 && x12.all fun n => inB n 1 64) with
     | false =>
      have HK := hd_ (show ALL = false by rw [hALL, hr]; simp)
      go_wp2_with fail
      refine (HD.out _ HB1.out).mono ?_; rintro e1 v1 ⟨rfl, hb1⟩
      rw [hd]
      have HV1 := hd_ (HB1.out.trans (hb1.mono HB1.out.size))
      clear hb1 f
      have f := HF.out _ HV1.out
      go_wp2_with fail
      refine (HT.out _ HV1.out).mono ?_; rintro e2 v2 ⟨rfl, hb2⟩
      rw [ht]
      have HV2 := hd_ (HV1.out.trans (hb2.mono HV1.out.size))
      clear hb2 f
      have f := HF.out _ HV2.out
      go_wp2_with fail
      refine (HZ.out _ HV2.out).mono ?_; rintro e3 v3 ⟨rfl, hb3⟩
      rw [hz]
      have HV3 := hd_ (HV2.out.trans (hb3.mono HV2.out.size))
      clear hb3 f
      have f := HF.out _ HV3.out
      go_wp2_with fail
      refine (HC.out _ HV3.out).mono ?_; rintro e4 v4 ⟨rfl, hb4⟩
      rw [hc]
      have HV4 := hd_ (HV3.out.trans (hb4.mono HV3.out.size))
      clear hb4 f
      have f := HF.out _ HV4.out
      go_wp2_with fail
      refine (HS.out _ HV4.out).mono ?_; rintro e5 v5 ⟨rfl, hb5⟩
      rw [hs]
      have HV5 := hd_ (HV4.out.trans (hb5.mono HV4.out.size))
      clear hb5 f
      have f := HF.out _ HV5.out
      go_wp2_with fail
      refine (HR.out _ HV5.out).mono ?_; rintro e6 v6 ⟨rfl, hb6⟩
      rw [hr]
      have HV6 := hd_ (HV5.out.trans (hb6.mono HV5.out.size))
      clear hb6 f
      have f := HF.out _ HV6.out
      go_wp2_with fail
      go_meet
      case rel => exact ⟨by rw [HK.out]; first | rfl | (rw [show decide ((x1.length : Int) < 4) = false from decide_eq_false (by omega)]; rfl), HV6.out⟩
     | true =>
      have HK := hd_ (show ALL = true by rw [hALL, hd, ht, hz, hc, hs, hr, decide_eq_true HW.out, decide_eq_true hl]; rfl)
      go_wp2_with fail
      refine (HD.out _ HB1.out).mono ?_; rintro e1 v1 ⟨rfl, hb1⟩
      rw [hd]
      have HV1 := hd_ (HB1.out.trans (hb1.mono HB1.out.size))
      clear hb1 f
      have f := HF.out _ HV1.out
      go_wp2_with fail
      refine (HT.out _ HV1.out).mono ?_; rintro e2 v2 ⟨rfl, hb2⟩
      rw [ht]
      have HV2 := hd_ (HV1.out.trans (hb2.mono HV1.out.size))
      clear hb2 f
      have f := HF.out _ HV2.out
      go_wp2_with fail
      refine (HZ.out _ HV2.out).mono ?_; rintro e3 v3 ⟨rfl, hb3⟩
      rw [hz]
      have HV3 := hd_ (HV2.out.trans (hb3.mono HV2.out.size))
      clear hb3 f
      have f := HF.out _ HV3.out
      go_wp2_with fail
      refine (HC.out _ HV3.out).mono ?_; rintro e4 v4 ⟨rfl, hb4⟩
      rw [hc]
      have HV4 := hd_ (HV3.out.trans (hb4.mono HV3.out.size))
      clear hb4 f
      have f := HF.out _ HV4.out
      go_wp2_with fail
      refine (HS.out _ HV4.out).mono ?_; rintro e5 v5 ⟨rfl, hb5⟩
      rw [hs]
      have HV5 := hd_ (HV4.out.trans (hb5.mono HV4.out.size))
      clear hb5 f
      have f := HF.out _ HV5.out
      go_wp2_with fail
      refine (HR.out _ HV5.out).mono ?_; rintro e6 v6 ⟨rfl, hb6⟩
      rw [hr]
      have HV6 := hd_ (HV5.out.trans (hb6.mono HV5.out.size))
      clear hb6 f
      have f := HF.out _ HV6.out
      go_wp2_with fail
      go_meet
      case rel => exact ⟨by rw [HK.out]; first | rfl | (rw [show decide ((x1.length : Int) < 4) = false from decide_eq_false (by omega)]; rfl), HV6.out⟩
  | true =>
   cases hs : seatsP x11 with
   | false =>
    have HK := hd_ (show ALL = false by rw [hALL, hs]; simp)
    go_wp2_with fail
    refine (HD.out _ HB1.out).mono ?_; rintro e1 v1 ⟨rfl, hb1⟩
    rw [hd]
    have HV1 := hd_ (HB1.out.trans (hb1.mono HB1.out.size))
    clear hb1 f
    have f := HF.out _ HV1.out
    go_wp2_with fail
    refine (HT.out _ HV1.out).mono ?_; rintro e2 v2 ⟨rfl, hb2⟩
    rw [ht]
    have HV2 := hd_ (HV1.out.trans (hb2.mono HV1.out.size))
    clear hb2 f
    have f := HF.out _ HV2.out
    go_wp2_with fail
    refine (HZ.out _ HV2.out).mono ?_; rintro e3 v3 ⟨rfl, hb3⟩
    rw [hz]
    have HV3 := hd_ (HV2.out.trans (hb3.mono HV2.out.size))
    clear hb3 f
    have f := HF.out _ HV3.out
    go_wp2_with fail
    refine (HS.out _ HV3.out).mono ?_; rintro e4 v4 ⟨rfl, hb4⟩
    rw [hs]
    have HV4 := hd_ (HV3.out.trans (hb4.mono HV3.out.size))
    clear hb4 f
    have f := HF.out _ HV4.out
    go_wp2_with fail
    go_meet
    case rel => exact ⟨by rw [HK.out]; first | rfl | (rw [show decide ((x1.length : Int) < 4) = false from decide_eq_false (by omega)]; rfl), HV4.out⟩
   | true =>
    cases hr : (risesI x12 && x12.all fun n => inB n 1 64) with
    | false =>
     have HK := hd_ (show ALL = false by rw [hALL, hr]; simp)
     go_wp2_with fail
     refine (HD.out _ HB1.out).mono ?_; rintro e1 v1 ⟨rfl, hb1⟩
     rw [hd]
     have HV1 := hd_ (HB1.out.trans (hb1.mono HB1.out.size))
     clear hb1 f
     have f := HF.out _ HV1.out
     go_wp2_with fail
     refine (HT.out _ HV1.out).mono ?_; rintro e2 v2 ⟨rfl, hb2⟩
     rw [ht]
     have HV2 := hd_ (HV1.out.trans (hb2.mono HV1.out.size))
     clear hb2 f
     have f := HF.out _ HV2.out
     go_wp2_with fail
     refine (HZ.out _ HV2.out).mono ?_; rintro e3 v3 ⟨rfl, hb3⟩
     rw [hz]
     have HV3 := hd_ (HV2.out.trans (hb3.mono HV2.out.size))
     clear hb3 f
     have f := HF.out _ HV3.out
     go_wp2_with fail
     refine (HS.out _ HV3.out).mono ?_; rintro e4 v4 ⟨rfl, hb4⟩
     rw [hs]
     have HV4 := hd_ (HV3.out.trans (hb4.mono HV3.out.size))
     clear hb4 f
     have f := HF.out _ HV4.out
     go_wp2_with fail
     refine (HR.out _ HV4.out).mono ?_; rintro e5 v5 ⟨rfl, hb5⟩
     rw [hr]
     have HV5 := hd_ (HV4.out.trans (hb5.mono HV4.out.size))
     clear hb5 f
     have f := HF.out _ HV5.out
     go_wp2_with fail
     go_meet
     case rel => exact ⟨by rw [HK.out]; first | rfl | (rw [show decide ((x1.length : Int) < 4) = false from decide_eq_false (by omega)]; rfl), HV5.out⟩
    | true =>
     have HK := hd_ (show ALL = true by rw [hALL, hd, ht, hz, hs, hr, decide_eq_true HW.out, decide_eq_true hl]; rfl)
     go_wp2_with fail
     refine (HD.out _ HB1.out).mono ?_; rintro e1 v1 ⟨rfl, hb1⟩
     rw [hd]
     have HV1 := hd_ (HB1.out.trans (hb1.mono HB1.out.size))
     clear hb1 f
     have f := HF.out _ HV1.out
     go_wp2_with fail
     refine (HT.out _ HV1.out).mono ?_; rintro e2 v2 ⟨rfl, hb2⟩
     rw [ht]
     have HV2 := hd_ (HV1.out.trans (hb2.mono HV1.out.size))
     clear hb2 f
     have f := HF.out _ HV2.out
     go_wp2_with fail
     refine (HZ.out _ HV2.out).mono ?_; rintro e3 v3 ⟨rfl, hb3⟩
     rw [hz]
     have HV3 := hd_ (HV2.out.trans (hb3.mono HV2.out.size))
     clear hb3 f
     have f := HF.out _ HV3.out
     go_wp2_with fail
     refine (HS.out _ HV3.out).mono ?_; rintro e4 v4 ⟨rfl, hb4⟩
     rw [hs]
     have HV4 := hd_ (HV3.out.trans (hb4.mono HV3.out.size))
     clear hb4 f
     have f := HF.out _ HV4.out
     go_wp2_with fail
     refine (HR.out _ HV4.out).mono ?_; rintro e5 v5 ⟨rfl, hb5⟩
     rw [hr]
     have HV5 := hd_ (HV4.out.trans (hb5.mono HV4.out.size))
     clear hb5 f
     have f := HF.out _ HV5.out
     go_wp2_with fail
     go_meet
     case rel => exact ⟨by rw [HK.out]; first | rfl | (rw [show decide ((x1.length : Int) < 4) = false from decide_eq_false (by omega)]; rfl), HV5.out⟩
 case rest =>
  obtain ⟨rfl, hbR⟩ := hcut
  have HBR := hd_ hbR
  have fR := HF.out _ hbR
  clear hbR HD HT HZ HC HS HR HB1 f
  cases ALL with
  | false =>
   have HA := hd_ (show ANS = false by rw [HANS.out, Bool.false_and])
   rw [show (!false) = true from rfl]
   clear hALL
   go_wp2_with fail
   go_ret
   exact ⟨by rw [HA.out]; rfl, HB0.out.trans (HBR.out.mono (by omega))⟩
  | true =>
  rw [show (!true) = false from rfl]
  clear hALL
  go_wp2_with fail
  clear fR
  go_loopw [4] (fun i wr => ∃ k : Nat, k ≤ x11.length ∧ i = .int .i64 k ∧ Hid ((x11.take k).all (fun s => !slotIn x6 s.2) = true) ∧ Below w1.heap.size w1 wr) (fun i _ => x11.length - (intOf i).toNat)
  case atStart => exact ⟨0, Nat.zero_le _, rfl, hd_ rfl, HBR.out⟩
  case round =>
  obtain ⟨k, hk, rfl, hkt, hb⟩ := hrel
  have HB := hd_ hb
  have hsz := hb.size
  by_cases hlt : k < x11.length
  ·have hr := HRW.out wr.drew hb.drew
   obtain ⟨-, b, off, rfl, hb1, hb2, _, e1, -⟩ := shSeat_at (shCache_f11 hr) hlt
   have f := HF.out wr.drew hb.drew
   have HU := hd_ (l18Uses_any A6 c6 x6 (x11.getD k shSeat.d).2 lo hi wr.drew (shTop_f3 (shCache_f3 hr)) hn6)
   have hN := all_next (fun s : TySeat => !slotIn x6 s.2) shSeat.d x11 k hlt
   have hM := all_not (fun s : TySeat => !slotIn x6 s.2) shSeat.d x11 k hlt
   have i1 : (k : Int) < (x11.length : Int) := by omega
   generalize (x11.getD k shSeat.d) = X at *
   obtain ⟨y0, y1⟩ := X
   dsimp only at e1 hN hM HU
   have HBD := hd_ (show Below w1.heap.size w1 wr.drew from hb.drew)
   have hszd : w1.heap.size ≤ wr.drew.heap.size := hsz
   have fw := HF.out wr hb
   clear hb hr
   cases hu : slotIn x6 y1 with
   | true =>
    have HFF := hd_ (show ANS = false by
     rw [HANS.out, Bool.true_and, show apartP x11 x6 = false from hM (by rw [hu]; rfl)]; rfl)
    clear hN hM hkt
    go_upto_region 7 with fail
    refine AnyT.region (fun _ => false) (fun W => (∀ i, W.cell? ⟨w.heap.size, i, none⟩ = (#[.int .i64 x0, .slice A1 x1.length c1, .slice A2 x2.length c2, .int .i64 x3, .int .i64 x4, .int .i64 x5, .slice A6 x6.length c6, .int .i64 x7, .int .i64 x8, .int .i64 x9, .slice A10 x10.length c10, .slice (some ⟨b, off, none⟩) x11.length c11, .slice A12 x12.length c12] : Array Value)[i]?) ∧ W.cell? ⟨b, off + k * 2 + 1, none⟩ = some (.int .i64 y1)) (by kernel_rfl) ⟨f, e1⟩ (fun hHeld => ?_)
    clear f e1 fw
    generalize wr.drew = wD at *
    (refine tA 0 60 ?_; simp only [pz])
    (refine tA 1 61 ?_; simp only [pz])
    (refine tK 2 62 ?_; simp only [pz])
    (refine tA 3 63 ?_; simp only [pz])
    (refine tK 4 64 ?_; simp only [pz])
    (refine tA 5 65 ?_; simp only [pz])
    (refine tA 6 66 ?_; simp only [pz])
    (refine tA 7 67 ?_; simp only [pz])
    (refine tK 8 68 ?_; simp only [pz])
    refine oNe 9 fun K hK => ?_
    go_simp
    refine (HU.out).mono ?_; rintro e1 w9 ⟨rfl, rfl⟩
    go_simp
    (try rw [hu])
    refine hK.out _ _ (by assumption) (fun hHeld => ?_)
    clear hK K
    (try simp only [pz])
    refine AnyT.done (by kernel_rfl) ?_ _
    clear hHeld
    go_wp2_with fail
    go_ret
    exact ⟨by rw [HFF.out]; rfl, HB0.out.trans (HBD.out.mono (by omega))⟩
   | false =>
    have HKN := hd_ (show (x11.take (k + 1)).all (fun s => !slotIn x6 s.2) = true by rw [hN, hkt.out, hu]; rfl)
    clear hN hM hkt
    go_upto_region 7 with fail
    refine AnyT.region (fun _ => false) (fun W => (∀ i, W.cell? ⟨w.heap.size, i, none⟩ = (#[.int .i64 x0, .slice A1 x1.length c1, .slice A2 x2.length c2, .int .i64 x3, .int .i64 x4, .int .i64 x5, .slice A6 x6.length c6, .int .i64 x7, .int .i64 x8, .int .i64 x9, .slice A10 x10.length c10, .slice (some ⟨b, off, none⟩) x11.length c11, .slice A12 x12.length c12] : Array Value)[i]?) ∧ W.cell? ⟨b, off + k * 2 + 1, none⟩ = some (.int .i64 y1)) (by kernel_rfl) ⟨f, e1⟩ (fun hHeld => ?_)
    clear f e1 fw
    generalize wr.drew = wD at *
    (refine tA 0 60 ?_; simp only [pz])
    (refine tA 1 61 ?_; simp only [pz])
    (refine tK 2 62 ?_; simp only [pz])
    (refine tA 3 63 ?_; simp only [pz])
    (refine tK 4 64 ?_; simp only [pz])
    (refine tA 5 65 ?_; simp only [pz])
    (refine tA 6 66 ?_; simp only [pz])
    (refine tA 7 67 ?_; simp only [pz])
    (refine tK 8 68 ?_; simp only [pz])
    refine oNe 9 fun K hK => ?_
    go_simp
    refine (HU.out).mono ?_; rintro e1 w9 ⟨rfl, rfl⟩
    go_simp
    (try rw [hu])
    refine hK.out _ _ (by assumption) (fun hHeld => ?_)
    clear hK K
    (try simp only [pz])
    refine AnyT.done (by kernel_rfl) ?_ _
    clear hHeld
    go_wp2_with fail
    go_roundw
    case rel => exact ⟨k + 1, by omega, by go_num, hd_ HKN.out, HBD.out⟩
    case measure => simp [intOf]; omega
  ·obtain rfl : k = x11.length := by omega
   have i1 : ¬ ((x11.length : Nat) : Int) < (x11.length : Int) := by omega
   rw [List.take_length] at hkt
   have hr := HRW.out wr hb
   have f := HF.out wr hb
   have HBa := hd_ (l18Below_any A6 c6 x6 (x1.length : Int) lo hi wr (shTop_f3 (shCache_f3 hr)) hn6)
   have HBb := hd_ (l18Below_any A10 c10 x10 (x1.length : Int) lo hi wr (shTop_f3 (shCache_f7 hr)) hn10)
   have HBc := hd_ (l18Below_any A11 c11 x11 (x1.length : Int) lo hi wr (shCache_f11 hr) hn11)
   have hFIN := show apartP x11 x6 = true from hkt.out
   clear hr hb hkt
   cases ha : belowP x6 (x1.length : Int) with
   | false =>
    have HFF := hd_ (show ANS = false by rw [HANS.out, ha]; simp)
    unfold belowP at ha
    clear hFIN
    go_wp2_with fail
    refine HBa.out.mono ?_; rintro e1 w9 ⟨rfl, rfl⟩; rw [ha]
    go_wp2_with fail
    go_ret
    exact ⟨by rw [HFF.out]; rfl, HB0.out.trans (HB.out.mono (by omega))⟩
   | true =>
   have haa := ha
   unfold belowP at ha
   cases hbb : belowP x10 (x1.length : Int) with
   | false =>
    have HFF := hd_ (show ANS = false by rw [HANS.out, hbb]; simp)
    unfold belowP at hbb
    clear hFIN
    go_wp2_with fail
    refine HBa.out.mono ?_; rintro e1 w9 ⟨rfl, rfl⟩; rw [ha]
    go_wp2_with fail
    refine HBb.out.mono ?_; rintro e1 w9 ⟨rfl, rfl⟩; rw [hbb]
    go_wp2_with fail
    go_ret
    exact ⟨by rw [HFF.out]; rfl, HB0.out.trans (HB.out.mono (by omega))⟩
   | true =>
    have HFF := hd_ (show ANS = belowP x11 (x1.length : Int) by rw [HANS.out, hFIN, haa, hbb]; rfl)
    unfold belowP at hbb
    clear hFIN haa
    go_wp2_with fail
    refine HBa.out.mono ?_; rintro e1 w9 ⟨rfl, rfl⟩; rw [ha]
    go_wp2_with fail
    refine HBb.out.mono ?_; rintro e1 w9 ⟨rfl, rfl⟩; rw [hbb]
    go_wp2_with fail
    refine HBc.out.mono ?_; rintro e1 w9 ⟨rfl, rfl⟩
    go_wp2_with fail
    go_ret
    exact ⟨by rw [HFF.out]; rfl, HB0.out.trans (HB.out.mono (by omega))⟩
end Go.Proofs.YtnnabkldceklmaaGreatDoor
