/- The program's CacheOk walked. -/
import Derived.Test.YtnnabkldceklmaaGreatDoorJoinBTBr
import Derived.Test.YtnnabkldceklmaaGreatDoorJoinBTBm
set_option maxHeartbeats 16000000
set_option maxRecDepth 100000
namespace Go.Proofs.YtnnabkldceklmaaGreatDoor
open Go.RowKit
theorem cacheOk1_any (x : TySeat) (b : Nat) (A6 : Option Addr) (c6 : Nat) (x6 : List TySeat) (lo hi : Nat) (w : World) (hb : b < w.heap.size) (hc : w.cell? ⟨b, 6, none⟩ = some (.slice A6 x6.length c6)) (h : (Sh.row 88 shSeat).R w lo hi [.slice A6 x6.length c6] x6) (hhi : hi ≤ w.heap.size) (hn : x6.length ≤ 1048576) :
  Calls Tryz.prog 114 #[.agg #[.int .i64 x.1, .int .i64 x.2], .pointer (some ⟨b, 0, none⟩)] w fun e w' => e = .returned (.bool (slotIn x6 x.2)) ∧ Below w.heap.size w w' := by
 obtain ⟨x0, x1⟩ := x
 dsimp only
 have hb0 := (Below.refl w.heap.size w).alloc (Nat.le_refl _) (.cells #[.int .i64 x0, .int .i64 x1] 88)
 have hz0 : (w.alloc (.cells #[.int .i64 x0, .int .i64 x1] 88)).heap.size = w.heap.size + 1 := by simp
 have f0 : (w.alloc (.cells #[.int .i64 x0, .int .i64 x1] 88)).cell? ⟨b, 6, none⟩ = some (.slice A6 x6.length c6) := (hb0.cell (p := ⟨b, 6, none⟩) hb).trans hc
 have HS := hd_ (hasSlot_any A6 c6 x6 x1 lo hi _ ((Sh.row 88 shSeat).R_below h hb0 hhi) (by rw [hz0]; omega) hn)
 have HB0 := hd_ hb0
 clear hb0 hc h
 generalize slotIn x6 x1 = ANS at *
 go_enter Tryz.func114, Tryz.ntmps114
 go_wp2_with (first | fail | (refine HS.out.mono ?_; rintro e1 w2 ⟨rfl, hb2⟩))
 go_ret
 exact ⟨rfl, HB0.out.trans (hb2.mono (by rw [hz0]; omega))⟩
theorem cacheOk_any (X : TyCache) (vs : List Value) (lo hi : Nat) (w : World) (h : shCache.R w lo hi vs X) (hhi : hi ≤ w.heap.size) (hf : shCache.fit 1048576 X) :
  Calls Tryz.prog 50 #[.agg vs.toArray] w fun e w' => e = .returned (.bool (cacheP X)) ∧ Below w.heap.size w w' := by
 obtain ⟨⟨x0, x1, x2⟩, ⟨x3, x4, x5, x6⟩, ⟨x7, x8, x9, x10⟩, x11, x12⟩ := X
 obtain ⟨A1, c1, A2, c2, A6, c6, A10, c10, A11, c11, A12, c12, rfl, _⟩ := shCache_R.1 h
 obtain ⟨⟨_, ⟨hn1, ht1⟩, ⟨hn2, ht2⟩⟩, ⟨_, _, _, ⟨hn6, _⟩⟩, ⟨_, _, _, ⟨hn10, _⟩⟩, ⟨hn11, _⟩, ⟨hn12, _⟩⟩ := hf
 dsimp only at hn1 ht1 hn2 ht2 hn6 hn10 hn11 hn12
 have hb0 := (Below.refl w.heap.size w).alloc (Nat.le_refl _) (.cells #[.int .i64 x0, .slice A1 x1.length c1, .slice A2 x2.length c2, .int .i64 x3, .int .i64 x4, .int .i64 x5, .slice A6 x6.length c6, .int .i64 x7, .int .i64 x8, .int .i64 x9, .slice A10 x10.length c10, .slice A11 x11.length c11, .slice A12 x12.length c12] 44)
 have hz0 : (w.alloc (.cells #[.int .i64 x0, .slice A1 x1.length c1, .slice A2 x2.length c2, .int .i64 x3, .int .i64 x4, .int .i64 x5, .slice A6 x6.length c6, .int .i64 x7, .int .i64 x8, .int .i64 x9, .slice A10 x10.length c10, .slice A11 x11.length c11, .slice A12 x12.length c12] 44)).heap.size = w.heap.size + 1 := by simp
 have HBK := hd_ (Blk.new w 44 #[.int .i64 x0, .slice A1 x1.length c1, .slice A2 x2.length c2, .int .i64 x3, .int .i64 x4, .int .i64 x5, .slice A6 x6.length c6, .int .i64 x7, .int .i64 x8, .int .i64 x9, .slice A10 x10.length c10, .slice A11 x11.length c11, .slice A12 x12.length c12])
 have HRC := hd_ (shCache.R_below h hb0 hhi)
 have HB0 := hd_ hb0
 obtain ⟨ALL, hALL⟩ : ∃ b, b = (diskP (x0, x1, x2) && decide (x0 = 1700) && decide (4 ≤ x1.length) && topP (x3, x4, x5, x6) && (topP (x7, x8, x9, x10) || zeroT (x7, x8, x9, x10)) && seatsP x11) := ⟨_, rfl⟩
 obtain ⟨ANS, hANS⟩ : ∃ b, b = cacheP ((x0, x1, x2), (x3, x4, x5, x6), (x7, x8, x9, x10), x11, x12) := ⟨_, rfl⟩
 rw [← hANS]
 have HANS := hd_ (show ANS = (ALL && ((x6 ++ x10 ++ x11).all fun s => inB s.2 0 ((x1.length : Int) - 1)) && (!(x11.any fun s => slotIn x6 s.2)) && risesI x12 && x12.all fun n => inB n 1 64) by rw [hANS, hALL]; rfl)
 clear hANS
 clear h hb0 ht1 ht2
 go_enter Tryz.func50, Tryz.ntmps50
 (try dsimp only [List.append])
 go_upto_region 1 with fail
 generalize (w.alloc (.cells #[.int .i64 x0, .slice A1 x1.length c1, .slice A2 x2.length c2, .int .i64 x3, .int .i64 x4, .int .i64 x5, .slice A6 x6.length c6, .int .i64 x7, .int .i64 x8, .int .i64 x9, .slice A10 x10.length c10, .slice A11 x11.length c11, .slice A12 x12.length c12] 44)) = w1 at *
 have HF := hd_ (show ∀ W, Below w1.heap.size w1 W → ∀ i, W.cell? ⟨w.heap.size, i, none⟩ = (#[.int .i64 x0, .slice A1 x1.length c1, .slice A2 x2.length c2, .int .i64 x3, .int .i64 x4, .int .i64 x5, .slice A6 x6.length c6, .int .i64 x7, .int .i64 x8, .int .i64 x9, .slice A10 x10.length c10, .slice A11 x11.length c11, .slice A12 x12.length c12] : Array Value)[i]? from fun W hW => (HBK.out.below hW (by omega)).cell)
 have HRW := hd_ (show ∀ W, Below w1.heap.size w1 W → shCache.R W lo hi _ ((x0, x1, x2), (x3, x4, x5, x6), (x7, x8, x9, x10), x11, x12) from fun W hW => shCache.R_below HRC.out hW (by omega))
 have HD := hd_ (fun W (hW : Below w1.heap.size w1 W) => diskOk_any x0 x1 x2 A1 c1 A2 c2 lo hi W (shCache_f0 (HRW.out W hW)) (by have := hW.size; omega) hn1 hn2)
 have HT := hd_ (fun W (hW : Below w1.heap.size w1 W) => topOk_any (x3, x4, x5, x6) _ lo hi W (shCache_f3 (HRW.out W hW)) (by have := hW.size; omega) hn6)
 have HZ := hd_ (fun W (hW : Below w1.heap.size w1 W) => isZeroTop_any (x7, x8, x9, x10) _ lo hi W (shCache_f7 (HRW.out W hW)) (by have := hW.size; omega) hn10)
 have HC := hd_ (fun W (hW : Below w1.heap.size w1 W) => topOk_any (x7, x8, x9, x10) _ lo hi W (shCache_f7 (HRW.out W hW)) (by have := hW.size; omega) hn10)
 have HS := hd_ (fun W (hW : Below w1.heap.size w1 W) => seatsOk_any A11 c11 x11 lo hi W (shCache_f11 (HRW.out W hW)) (by have := hW.size; omega) hn11)
 have f := HF.out w1 (Below.refl _ _)
 have HB1 := hd_ (Below.refl w1.heap.size w1)
 clear HBK HRC
 go_cut [45] (fun bb wr => bb = .bool (!ALL) ∧ Below w1.heap.size w1 wr)
 case first =>
  clear HANS
  cases hd : diskP (x0, x1, x2) with
  | false =>
   have HK := hd_ (show ALL = false by rw [hALL, hd]; rfl)
   go_wp2_with fail
   refine (HD.out _ HB1.out).mono ?_; rintro e1 v1 ⟨rfl, hb1⟩
   rw [hd]
   have HV1 := hd_ (HB1.out.trans (hb1.mono HB1.out.size))
   clear hb1 f
   have f := HF.out _ HV1.out
   go_wp2_with fail
   go_meet
   case rel => exact ⟨by rw [HK.out]; first | rfl | (rw [show decide ((x1.length : Int) < 4) = false from decide_eq_false (by omega)]; rfl), HV1.out⟩
  | true =>
  by_cases hw : x0 = 1700
  rotate_left
  ·have q1 : (x0 != 1700) = true := by simp [hw]
   have HK := hd_ (show ALL = false by rw [hALL, decide_eq_false hw]; simp)
   go_wp2_with fail
   refine (HD.out _ HB1.out).mono ?_; rintro e1 v1 ⟨rfl, hb1⟩
   rw [hd]
   have HV1 := hd_ (HB1.out.trans (hb1.mono HB1.out.size))
   clear hb1 f
   have f := HF.out _ HV1.out
   go_wp2_with fail
   go_meet
   case rel => exact ⟨by rw [HK.out]; first | rfl | (rw [show decide ((x1.length : Int) < 4) = false from decide_eq_false (by omega)]; rfl), HV1.out⟩
  have q1 : (x0 != 1700) = false := by simp [hw]
  have HW := hd_ hw; clear hw
  by_cases hl : 4 ≤ x1.length
  rotate_left
  ·have q2 : (x1.length : Int) < 4 := by omega
   have HK := hd_ (show ALL = false by rw [hALL, decide_eq_false hl]; simp)
   go_wp2_with fail
   refine (HD.out _ HB1.out).mono ?_; rintro e1 v1 ⟨rfl, hb1⟩
   rw [hd]
   have HV1 := hd_ (HB1.out.trans (hb1.mono HB1.out.size))
   clear hb1 f
   have f := HF.out _ HV1.out
   go_wp2_with fail
   go_meet
   case rel => exact ⟨by rw [HK.out]; first | rfl | (rw [show decide ((x1.length : Int) < 4) = false from decide_eq_false (by omega)]; rfl), HV1.out⟩
  have q2 : ¬ (x1.length : Int) < 4 := by omega
  cases ht : topP (x3, x4, x5, x6) with
  | false =>
   have HK := hd_ (show ALL = false by rw [hALL, ht]; simp)
   go_wp2_with fail
   refine (HD.out _ HB1.out).mono ?_; rintro e1 v1 ⟨rfl, hb1⟩
   rw [hd]
   have HV1 := hd_ (HB1.out.trans (hb1.mono HB1.out.size))
   clear hb1 f
   have f := HF.out _ HV1.out
   go_wp2_with fail
   refine (HT.out _ HV1.out).mono ?_; rintro e2 v2 ⟨rfl, hb2⟩
   rw [ht]
   have HV2 := hd_ (HV1.out.trans (hb2.mono HV1.out.size))
   clear hb2 f
   have f := HF.out _ HV2.out
   go_wp2_with fail
   go_meet
   case rel => exact ⟨by rw [HK.out]; first | rfl | (rw [show decide ((x1.length : Int) < 4) = false from decide_eq_false (by omega)]; rfl), HV2.out⟩
  | true =>
  cases hc : topP (x7, x8, x9, x10) with
  | false =>
   cases hz : zeroT (x7, x8, x9, x10) with
   | false =>
    have HK := hd_ (show ALL = false by rw [hALL, hz, hc]; simp)
    go_wp2_with fail
    refine (HD.out _ HB1.out).mono ?_; rintro e1 v1 ⟨rfl, hb1⟩
    rw [hd]
    have HV1 := hd_ (HB1.out.trans (hb1.mono HB1.out.size))
    clear hb1 f
    have f := HF.out _ HV1.out
    go_wp2_with fail
    refine (HT.out _ HV1.out).mono ?_; rintro e2 v2 ⟨rfl, hb2⟩
    rw [ht]
    have HV2 := hd_ (HV1.out.trans (hb2.mono HV1.out.size))
    clear hb2 f
    have f := HF.out _ HV2.out
    go_wp2_with fail
    refine (HC.out _ HV2.out).mono ?_; rintro e3 v3 ⟨rfl, hb3⟩
    rw [hc]
    have HV3 := hd_ (HV2.out.trans (hb3.mono HV2.out.size))
    clear hb3 f
    have f := HF.out _ HV3.out
    go_wp2_with fail
    refine (HZ.out _ HV3.out).mono ?_; rintro e4 v4 ⟨rfl, hb4⟩
    rw [hz]
    have HV4 := hd_ (HV3.out.trans (hb4.mono HV3.out.size))
    clear hb4 f
    have f := HF.out _ HV4.out
    go_wp2_with fail
    go_meet
    case rel => exact ⟨by rw [HK.out]; first | rfl | (rw [show decide ((x1.length : Int) < 4) = false from decide_eq_false (by omega)]; rfl), HV4.out⟩
   | true =>
    cases hs : seatsP x11 with
    | false =>
     have HK := hd_ (show ALL = false by rw [hALL, hs]; simp)
     go_wp2_with fail
     refine (HD.out _ HB1.out).mono ?_; rintro e1 v1 ⟨rfl, hb1⟩
     rw [hd]
     have HV1 := hd_ (HB1.out.trans (hb1.mono HB1.out.size))
     clear hb1 f
     have f := HF.out _ HV1.out
     go_wp2_with fail
     refine (HT.out _ HV1.out).mono ?_; rintro e2 v2 ⟨rfl, hb2⟩
     rw [ht]
     have HV2 := hd_ (HV1.out.trans (hb2.mono HV1.out.size))
     clear hb2 f
     have f := HF.out _ HV2.out
     go_wp2_with fail
     refine (HC.out _ HV2.out).mono ?_; rintro e3 v3 ⟨rfl, hb3⟩
     rw [hc]
     have HV3 := hd_ (HV2.out.trans (hb3.mono HV2.out.size))
     clear hb3 f
     have f := HF.out _ HV3.out
     go_wp2_with fail
     refine (HZ.out _ HV3.out).mono ?_; rintro e4 v4 ⟨rfl, hb4⟩
     rw [hz]
     have HV4 := hd_ (HV3.out.trans (hb4.mono HV3.out.size))
     clear hb4 f
     have f := HF.out _ HV4.out
     go_wp2_with fail
     refine (HS.out _ HV4.out).mono ?_; rintro e5 v5 ⟨rfl, hb5⟩
     rw [hs]
     have HV5 := hd_ (HV4.out.trans (hb5.mono HV4.out.size))
     clear hb5 f
     have f := HF.out _ HV5.out
     go_wp2_with fail
     go_meet
     case rel => exact ⟨by rw [HK.out]; first | rfl | (rw [show decide ((x1.length : Int) < 4) = false from decide_eq_false (by omega)]; rfl), HV5.out⟩
    | true =>
     have HK := hd_ (show ALL = true by rw [hALL, hd, ht, hz, hc, hs, decide_eq_true HW.out, decide_eq_true hl]; rfl)
     go_wp2_with fail
     refine (HD.out _ HB1.out).mono ?_; rintro e1 v1 ⟨rfl, hb1⟩
     rw [hd]
     have HV1 := hd_ (HB1.out.trans (hb1.mono HB1.out.size))
     clear hb1 f
     have f := HF.out _ HV1.out
     go_wp2_with fail
     refine (HT.out _ HV1.out).mono ?_; rintro e2 v2 ⟨rfl, hb2⟩
     rw [ht]
     have HV2 := hd_ (HV1.out.trans (hb2.mono HV1.out.size))
     clear hb2 f
     have f := HF.out _ HV2.out
     go_wp2_with fail
     refine (HC.out _ HV2.out).mono ?_; rintro e3 v3 ⟨rfl, hb3⟩
     rw [hc]
     have HV3 := hd_ (HV2.out.trans (hb3.mono HV2.out.size))
     clear hb3 f
     have f := HF.out _ HV3.out
     go_wp2_with fail
     refine (HZ.out _ HV3.out).mono ?_; rintro e4 v4 ⟨rfl, hb4⟩
     rw [hz]
     have HV4 := hd_ (HV3.out.trans (hb4.mono HV3.out.size))
     clear hb4 f
     have f := HF.out _ HV4.out
     go_wp2_with fail
     refine (HS.out _ HV4.out).mono ?_; rintro e5 v5 ⟨rfl, hb5⟩
     rw [hs]
     have HV5 := hd_ (HV4.out.trans (hb5.mono HV4.out.size))
     clear hb5 f
     have f := HF.out _ HV5.out
     go_wp2_with fail
     go_meet
     case rel => exact ⟨by rw [HK.out]; first | rfl | (rw [show decide ((x1.length : Int) < 4) = false from decide_eq_false (by omega)]; rfl), HV5.out⟩
  | true =>
   cases hs : seatsP x11 with
   | false =>
    have HK := hd_ (show ALL = false by rw [hALL, hs]; simp)
    go_wp2_with fail
    refine (HD.out _ HB1.out).mono ?_; rintro e1 v1 ⟨rfl, hb1⟩
    rw [hd]
    have HV1 := hd_ (HB1.out.trans (hb1.mono HB1.out.size))
    clear hb1 f
    have f := HF.out _ HV1.out
    go_wp2_with fail
    refine (HT.out _ HV1.out).mono ?_; rintro e2 v2 ⟨rfl, hb2⟩
    rw [ht]
    have HV2 := hd_ (HV1.out.trans (hb2.mono HV1.out.size))
    clear hb2 f
    have f := HF.out _ HV2.out
    go_wp2_with fail
    refine (HC.out _ HV2.out).mono ?_; rintro e3 v3 ⟨rfl, hb3⟩
    rw [hc]
    have HV3 := hd_ (HV2.out.trans (hb3.mono HV2.out.size))
    clear hb3 f
    have f := HF.out _ HV3.out
    go_wp2_with fail
    refine (HS.out _ HV3.out).mono ?_; rintro e4 v4 ⟨rfl, hb4⟩
    rw [hs]
    have HV4 := hd_ (HV3.out.trans (hb4.mono HV3.out.size))
    clear hb4 f
    have f := HF.out _ HV4.out
    go_wp2_with fail
    go_meet
    case rel => exact ⟨by rw [HK.out]; first | rfl | (rw [show decide ((x1.length : Int) < 4) = false from decide_eq_false (by omega)]; rfl), HV4.out⟩
   | true =>
    have HK := hd_ (show ALL = true by rw [hALL, hd, ht, hc, hs, decide_eq_true HW.out, decide_eq_true hl]; rfl)
    go_wp2_with fail
    refine (HD.out _ HB1.out).mono ?_; rintro e1 v1 ⟨rfl, hb1⟩
    rw [hd]
    have HV1 := hd_ (HB1.out.trans (hb1.mono HB1.out.size))
    clear hb1 f
    have f := HF.out _ HV1.out
    go_wp2_with fail
    refine (HT.out _ HV1.out).mono ?_; rintro e2 v2 ⟨rfl, hb2⟩
    rw [ht]
    have HV2 := hd_ (HV1.out.trans (hb2.mono HV1.out.size))
    clear hb2 f
    have f := HF.out _ HV2.out
    go_wp2_with fail
    refine (HC.out _ HV2.out).mono ?_; rintro e3 v3 ⟨rfl, hb3⟩
    rw [hc]
    have HV3 := hd_ (HV2.out.trans (hb3.mono HV2.out.size))
    clear hb3 f
    have f := HF.out _ HV3.out
    go_wp2_with fail
    refine (HS.out _ HV3.out).mono ?_; rintro e4 v4 ⟨rfl, hb4⟩
    rw [hs]
    have HV4 := hd_ (HV3.out.trans (hb4.mono HV3.out.size))
    clear hb4 f
    have f := HF.out _ HV4.out
    go_wp2_with fail
    go_meet
    case rel => exact ⟨by rw [HK.out]; first | rfl | (rw [show decide ((x1.length : Int) < 4) = false from decide_eq_false (by omega)]; rfl), HV4.out⟩
 case rest =>
  obtain ⟨rfl, hbR⟩ := hcut
  have HBR := hd_ hbR
  have fR := HF.out _ hbR
  have hszR := hbR.size
  clear HD HT HZ HC HS HB1 f hALL
  cases ALL with
  | false =>
   have HA := hd_ (show ANS = false by rw [HANS.out, Bool.false_and, Bool.false_and, Bool.false_and, Bool.false_and])
   rw [show (!false) = true from rfl]
   clear hbR
   go_wp2_with fail
   go_ret
   exact ⟨by rw [HA.out]; rfl, HB0.out.trans (HBR.out.mono (by omega))⟩
  | true =>
  rw [show (!true) = false from rfl]
  have HANS := hd_ (show ANS = (((x6 ++ x10 ++ x11).all fun s => inB s.2 0 ((x1.length : Int) - 1)) && (!(x11.any fun s => slotIn x6 s.2)) && risesI x12 && x12.all fun n => inB n 1 64) by rw [HANS.out, Bool.true_and])
  have HCN := hd_ (fun (wr : World) (hW : Below w1.heap.size w1 wr) => concat_any [(A6, c6, x6), (A10, c10, x10), (A11, c11, x11)] wr.heap.size 0 3 lo hi (wr.alloc (.cells #[.slice A6 x6.length c6, .slice A10 x10.length c10, .slice A11 x11.length c11] 40))
   (fun j hj => by
    have hB := (Blk.new wr 40 #[.slice A6 x6.length c6, .slice A10 x10.length c10, .slice A11 x11.length c11]).cell j
    rw [Nat.zero_add, hB]
    match j, hj with
    | 0, _ => rfl
    | 1, _ => rfl
    | 2, _ => rfl)
   (by rw [show (wr.alloc (.cells #[.slice A6 x6.length c6, .slice A10 x10.length c10, .slice A11 x11.length c11] 40)).heap.size = wr.heap.size + 1 by simp]; omega)
   (fun r hr => by
    have hR := shCache.R_below (HRW.out wr hW) ((Below.refl wr.heap.size wr).alloc (Nat.le_refl _) (.cells #[.slice A6 x6.length c6, .slice A10 x10.length c10, .slice A11 x11.length c11] 40)) (by have := hW.size; omega)
    simp only [List.mem_cons, List.not_mem_nil, or_false] at hr
    rcases hr with rfl | rfl | rfl
    ·exact shTop_f3 (shCache_f3 hR)
    ·exact shTop_f3 (shCache_f7 hR)
    ·exact shCache_f11 hR)
   (by rw [show (wr.alloc (.cells #[.slice A6 x6.length c6, .slice A10 x10.length c10, .slice A11 x11.length c11] 40)).heap.size = wr.heap.size + 1 by simp]; have := hW.size; omega)
   (by show 3 ≤ 16; omega) (by show ((([(A6, c6, x6), (A10, c10, x10), (A11, c11, x11)] : List (Option Addr × Nat × List TySeat)).take 3).map fun r => r.2.2.length).sum ≤ _; simp only [List.take, List.map, List.sum_cons, List.sum_nil]; omega))
  rw [show flatTo [(A6, c6, x6), (A10, c10, x10), (A11, c11, x11)] ([(A6, c6, x6), (A10, c10, x10), (A11, c11, x11)] : List (Option Addr × Nat × List TySeat)).length = x6 ++ x10 ++ x11 by unfold flatTo; simp] at HCN
  have HCC := hd_ (HCN.out _ hbR)
  clear HCN hbR
  obtain ⟨LL, hLL⟩ : ∃ l, l = x6 ++ x10 ++ x11 := ⟨_, rfl⟩
  have hnL : LL.length ≤ 4194304 := by rw [hLL, List.length_append, List.length_append]; omega
  rw [← hLL] at HCC HANS
  clear hLL
  have HBA := hd_ ((Below.refl wc.heap.size wc).alloc (Nat.le_refl _) (.cells #[.slice A6 x6.length c6, .slice A10 x10.length c10, .slice A11 x11.length c11] 40))
  go_wp2_with (first | fail | (refine HCC.out.mono ?_; rintro e1 w2 ⟨AL, cL, rfl, hRL, hb2⟩))
  have HB2 := hd_ (show Below w1.heap.size w1 w2 from HBR.out.trans ((HBA.out.trans (hb2.mono (by simp))).mono hszR))
  have HRL := hd_ hRL
  clear hRL hb2 HCC HBA fR
  go_loopw [57] (fun i v => ∃ k : Nat, k ≤ LL.length ∧ i = .int .i64 k ∧ Hid (∀ j, j < k → inB (LL.getD j shSeat.d).2 0 ((x1.length : Int) - 1) = true) ∧ Below w2.heap.size w2 v) (fun i _ => LL.length - (intOf i).toNat)
  case atStart => exact ⟨0, Nat.zero_le _, rfl, hd_ (fun j hj => absurd hj (Nat.not_lt_zero j)), Below.refl _ _⟩
  case round =>
   obtain ⟨k, hk, rfl, hno, hb⟩ := hrel
   have HBV := hd_ (show Below w1.heap.size w1 wr from HB2.out.trans (hb.mono HB2.out.size))
   by_cases hlt : k < LL.length
   ·obtain ⟨-, b, off, rfl, hb1, hb2, e0, e1, -⟩ := shSeat_at ((Sh.row 88 shSeat).R_below HRL.out hb (Nat.le_refl _)) hlt
    have hsz := hb.size
    have hszV := HBV.out.size
    have HB := hd_ hb; clear hb
    have hbw : b < wr.heap.size := by omega
    have hbx : w.heap.size < wr.heap.size := by omega
    have f := HF.out _ HBV.out
    have HX := hd_ (rfl : LL.getD k shSeat.d = LL.getD k shSeat.d)
    cases hq : inB (LL.getD k shSeat.d).2 0 ((x1.length : Int) - 1) with
    | false =>
     have HK := hd_ (show ANS = false by
      rw [HANS.out]
      have : (LL.all fun s => inB s.2 0 ((x1.length : Int) - 1)) = false := List.all_eq_false.2 ⟨LL.getD k shSeat.d, by rw [List.getD_eq_getElem?_getD, List.getElem?_eq_getElem hlt]; exact List.getElem_mem hlt, by rw [hq]; exact Bool.false_ne_true⟩
      rw [this]; rfl)
     clear HANS HX
     generalize (LL.getD k shSeat.d).1 = y0 at *
     generalize (LL.getD k shSeat.d).2 = y1 at *
     have HH := hd_ (fun W => has_any x0 A1 x1.length c1 A2 x2.length c2 y1 W hn1)
     rw [hq] at HH
     go_wp2_with (first | fail | (refine (HH.out _).mono ?_; rintro e1 v1 ⟨rfl, hv1⟩))
     go_ret
     refine ⟨by rw [HK.out]; rfl, HB0.out.trans (Below.mono (Below.trans (B := w1.heap.size) ?_ (hv1.mono ?_)) (by omega))⟩
     ·first | exact HBV.out.alloc (by omega) _ | exact (HBV.out.alloc (by omega) _).setCell (by show _ ≤ wr.heap.size; omega) _ | exact ((HBV.out.alloc (by omega) _).setCell (by show _ ≤ wr.heap.size; omega) _).setCell (by show _ ≤ wr.heap.size; omega) _
     ·simp; omega
    | true =>
     have HN' := hd_ (show ∀ j, j < k + 1 → inB (LL.getD j shSeat.d).2 0 ((x1.length : Int) - 1) = true from fun j hj => by
      rcases Nat.lt_or_ge j k with h | h
      ·exact hno.out j h
      ·obtain rfl : j = k := by omega
       exact hq)
     clear hno HX
     generalize (LL.getD k shSeat.d).1 = y0 at *
     generalize (LL.getD k shSeat.d).2 = y1 at *
     have HH := hd_ (fun W => has_any x0 A1 x1.length c1 A2 x2.length c2 y1 W hn1)
     rw [hq] at HH
     go_wp2_with (first | fail | (refine (HH.out _).mono ?_; rintro e1 v1 ⟨rfl, hv1⟩))
     go_roundw
     case rel =>
      refine ⟨k + 1, by omega, by go_num, HN', Below.trans (B := w2.heap.size) ?_ (hv1.mono ?_)⟩
      ·first | exact HB.out.alloc (by omega) _ | exact (HB.out.alloc (by omega) _).setCell (by show _ ≤ wr.heap.size; omega) _ | exact ((HB.out.alloc (by omega) _).setCell (by show _ ≤ wr.heap.size; omega) _).setCell (by show _ ≤ wr.heap.size; omega) _
      ·simp; omega
     all_goals (first | omega | (simp only [intOf, Int.toNat_natCast]; omega) | (simp [intOf]; omega))
   ·obtain rfl : k = LL.length := by omega
    have HALL := hd_ (show (LL.all fun s => inB s.2 0 ((x1.length : Int) - 1)) = true from List.all_eq_true.2 fun s hs => by
     obtain ⟨j, hj, rfl⟩ := List.getElem_of_mem hs
     have := hno.out j hj
     rw [List.getD_eq_getElem?_getD, List.getElem?_eq_getElem hj] at this
     exact this)
    have HANS := hd_ (show ANS = ((!(x11.any fun s => slotIn x6 s.2)) && risesI x12 && x12.all fun n => inB n 1 64) by rw [HANS.out, HALL.out, Bool.true_and])
    clear hno HALL
    have hszV := HBV.out.size
    have hbx : w.heap.size < wr.heap.size := by omega
    have f := HF.out _ HBV.out
    have HCF := hd_ (cfnSeat 114 #[.pointer (some ⟨w.heap.size, 0, none⟩)] (fun s => slotIn x6 s.2) (enters_of Tryz.func114 (by kernel_rfl) rfl) A11 c11 x11 lo hi wr (shCache_f11 (HRW.out wr HBV.out)) (by omega) hn11
     (fun W x _ hW => cacheOk1_any x w.heap.size A6 c6 x6 lo hi W (by have := hW.size; omega) ((HF.out W (HBV.out.trans (hW.mono hszV))) 6) (shTop_f3 (shCache_f3 (HRW.out W (HBV.out.trans (hW.mono hszV))))) (by have := hW.size; omega) hn6))
    cases hany : (x11.any fun s => slotIn x6 s.2) with
    | true =>
     rw [hany] at HCF
     have HK := hd_ (show ANS = false by rw [HANS.out, hany]; rfl)
     clear HANS hb
     go_wp2_with (first | fail | (refine HCF.out.mono ?_; rintro e1 v1 ⟨rfl, hv1⟩))
     go_ret
     exact ⟨by rw [HK.out]; rfl, HB0.out.trans ((HBV.out.mono (by omega)).trans (hv1.mono (by omega)))⟩
    | false =>
     rw [hany] at HCF
     have HANS := hd_ (show ANS = (risesI x12 && x12.all fun n => inB n 1 64) by rw [HANS.out, hany]; rfl)
     clear hb
     go_wp2_with fail
     refine HCF.out.mono ?_; rintro e1 v1 ⟨rfl, hv1⟩
     have HBV1 := hd_ (HBV.out.trans (hv1.mono hszV))
     have hbx1 : w.heap.size < v1.heap.size := by have := hv1.size; omega
     clear f hv1 HCF hany
     have f := HF.out _ HBV1.out
     have hsz1 := HBV1.out.size
     have HRI := hd_ (risingP_any A12 c12 x12 lo hi v1 (shCache_f12 (HRW.out v1 HBV1.out)) (by omega) hn12)
     have HWF := hd_ (show Below w.heap.size w v1 from HB0.out.trans (HBV1.out.mono (by omega)))
     cases hr : risesI x12 with
     | false =>
      rw [hr] at HRI
      have HK := hd_ (show ANS = false by rw [HANS.out, hr]; rfl)
      clear HANS
      go_wp2_with (first | fail | (refine HRI.out.mono ?_; rintro e2 v2 ⟨rfl, hv2⟩))
      go_ret
      exact ⟨by rw [HK.out]; rfl, HWF.out.trans (hv2.mono (by omega))⟩
     | true =>
      rw [hr] at HRI
      have HANS := hd_ (show ANS = (x12.all fun n => inB n 1 64) by rw [HANS.out, hr]; rfl)
      go_wp2_with fail
      refine HRI.out.mono ?_; rintro e2 v2 ⟨rfl, hv2⟩
      have HBV2 := hd_ (HBV1.out.trans (hv2.mono (by omega)))
      have HWF2 := hd_ (show Below w.heap.size w v2 from HWF.out.trans (hv2.mono (by omega)))
      have hbx2 : w.heap.size < v2.heap.size := by have := hv2.size; omega
      clear f hv2 HRI hr
      have f := HF.out _ HBV2.out
      have hsz2 := HBV2.out.size
      have HAI := hd_ (allWithinP_any A12 c12 x12 1 64 lo hi v2 (shCache_f12 (HRW.out v2 HBV2.out)) (by omega) hn12)
      rw [← HANS.out] at HAI
      clear HANS
      go_wp2_with (first | fail | (refine HAI.out.mono ?_; rintro e3 v3 ⟨rfl, hv3⟩))
      go_ret
      exact ⟨rfl, HWF2.out.trans (hv3.mono (by omega))⟩
end Go.Proofs.YtnnabkldceklmaaGreatDoor
/- The program's BeginTop walked. Printed by bto/boi.py. -/
namespace Go.Proofs.YtnnabkldceklmaaGreatDoor
open Go.RowKit
theorem zero_Own (W : World) (lo hi : Nat) (h : lo ≤ hi) : Own shCache W lo hi [.int .i64 0, .slice none 0 0, .slice none 0 0, .int .i64 0, .int .i64 0, .int .i64 0, .slice none 0 0, .int .i64 0, .int .i64 0, .int .i64 0, .slice none 0 0, .slice none 0 0, .slice none 0 0] zeroC := by
 have r : ∀ {α : Type} (s : Sh α) (t : TypeId), Own (Sh.row t s) W lo lo [.slice none 0 0] [] := fun s t => Own.nil_row W lo lo
 have i0 : Own shI W lo lo [.int .i64 0] 0 := Own.one W lo lo 0
 have T : Own shTop W lo lo [.int .i64 0, .int .i64 0, .int .i64 0, .slice none 0 0] (0, 0, 0, []) := Own.prod i0 (Own.prod i0 (Own.prod i0 (r _ _) (Nat.le_refl _) (Nat.le_refl _) (Nat.le_refl _)) (Nat.le_refl _) (Nat.le_refl _) (Nat.le_refl _)) (Nat.le_refl _) (Nat.le_refl _) (Nat.le_refl _)
 have D : Own shDisk W lo lo [.int .i64 0, .slice none 0 0, .slice none 0 0] (0, [], []) := Own.prod i0 (Own.prod (r _ _) (r _ _) (Nat.le_refl _) (Nat.le_refl _) (Nat.le_refl _)) (Nat.le_refl _) (Nat.le_refl _) (Nat.le_refl _)
 have all : Own shCache W lo lo [.int .i64 0, .slice none 0 0, .slice none 0 0, .int .i64 0, .int .i64 0, .int .i64 0, .slice none 0 0, .int .i64 0, .int .i64 0, .int .i64 0, .slice none 0 0, .slice none 0 0, .slice none 0 0] zeroC := Own.prod D (Own.prod T (Own.prod T (Own.prod (r _ _) (r _ _) (Nat.le_refl _) (Nat.le_refl _) (Nat.le_refl _)) (Nat.le_refl _) (Nat.le_refl _) (Nat.le_refl _)) (Nat.le_refl _) (Nat.le_refl _) (Nat.le_refl _)) (Nat.le_refl _) (Nat.le_refl _) (Nat.le_refl _)
 exact all.more (Nat.le_refl _) h
theorem implBeginTop_f (X0 : TyCache) (X1 : TyBtree) (s2 : Int) (vs0 vs1 : List Value) (lo0 hi0 lo1 hi1 : Nat) (w : World) (h0 : shCache.R w lo0 hi0 vs0 X0) (h1 : shBtree.R w lo1 hi1 vs1 X1) (hh0 : hi0 ≤ w.heap.size) (hh1 : hi1 ≤ w.heap.size) (hf0 : shCache.fit 1048576 X0) (hf1 : shBtree.fit 1048576 X1) (hE : EnvIn w) :
  Calls Tryz.prog 13 #[.agg vs0.toArray, .agg vs1.toArray, .int .i64 s2] w fun e w' => ∃ us : List Value, e = .returned (.tuple #[.agg us.toArray, .int .i64 (beginR X0 X1 s2).2]) ∧ Own shCache w' w.heap.size w'.heap.size us (beginR X0 X1 s2).1 ∧ Below w.heap.size w w' := by
 obtain ⟨⟨x0, x1, x2⟩, ⟨x3, x4, x5, x6⟩, ⟨x7, x8, x9, x10⟩, x11, x12⟩ := X0
 obtain ⟨root, l⟩ := X1
 obtain ⟨A1, c1, A2, c2, A6, c6, A10, c10, A11, c11, A12, c12, rfl, _⟩ := shCache_R.1 h0
 obtain ⟨AL, cl, rfl, _⟩ := shBtree_R.1 h1
 have HF0 := hd_ hf0; have HF1 := hd_ hf1
 have HEE := hd_ hE
 have HR0 := hd_ h0; have HR1 := hd_ h1
 have HIN := hd_ (fun a lo hi W => withinP_any a lo hi W)
 have HS0 : Stand w [(w.heap.size + 1 + 1, w.heap.size + 1 + 1 + 1, fun W => Blk W (w.heap.size + 1 + 1) 44 zz9), (w.heap.size + 1, w.heap.size + 1 + 1, fun W => Blk W (w.heap.size + 1) 50 #[.int .i64 root, .slice AL l.length cl]), (w.heap.size, w.heap.size + 1, fun W => Blk W w.heap.size 44 #[.int .i64 x0, .slice A1 x1.length c1, .slice A2 x2.length c2, .int .i64 x3, .int .i64 x4, .int .i64 x5, .slice A6 x6.length c6, .int .i64 x7, .int .i64 x8, .int .i64 x9, .slice A10 x10.length c10, .slice A11 x11.length c11, .slice A12 x12.length c12])] (((w.alloc (.cells #[.int .i64 x0, .slice A1 x1.length c1, .slice A2 x2.length c2, .int .i64 x3, .int .i64 x4, .int .i64 x5, .slice A6 x6.length c6, .int .i64 x7, .int .i64 x8, .int .i64 x9, .slice A10 x10.length c10, .slice A11 x11.length c11, .slice A12 x12.length c12] 44)).alloc (.cells #[.int .i64 root, .slice AL l.length cl] 50)).alloc (.cells zz9 44)) := by
  have := ((((Stand.nil w).box 44 #[.int .i64 x0, .slice A1 x1.length c1, .slice A2 x2.length c2, .int .i64 x3, .int .i64 x4, .int .i64 x5, .slice A6 x6.length c6, .int .i64 x7, .int .i64 x8, .int .i64 x9, .slice A10 x10.length c10, .slice A11 x11.length c11, .slice A12 x12.length c12]).box 50 #[.int .i64 root, .slice AL l.length cl]).box 44 zz9)
  rw [heap_alloc_size1, heap_alloc_size1] at this
  exact this
 have hz3 : (((w.alloc (.cells #[.int .i64 x0, .slice A1 x1.length c1, .slice A2 x2.length c2, .int .i64 x3, .int .i64 x4, .int .i64 x5, .slice A6 x6.length c6, .int .i64 x7, .int .i64 x8, .int .i64 x9, .slice A10 x10.length c10, .slice A11 x11.length c11, .slice A12 x12.length c12] 44)).alloc (.cells #[.int .i64 root, .slice AL l.length cl] 50)).alloc (.cells zz9 44)).heap.size = w.heap.size + 1 + 1 + 1 := by simp
 clear h0 h1 hE hf0 hf1
 go_enter Tryz.func13, Tryz.ntmps13
 (try dsimp only [List.append])
 go_upto_region 1 with fail
 generalize (((w.alloc (.cells #[.int .i64 x0, .slice A1 x1.length c1, .slice A2 x2.length c2, .int .i64 x3, .int .i64 x4, .int .i64 x5, .slice A6 x6.length c6, .int .i64 x7, .int .i64 x8, .int .i64 x9, .slice A10 x10.length c10, .slice A11 x11.length c11, .slice A12 x12.length c12] 44)).alloc (.cells #[.int .i64 root, .slice AL l.length cl] 50)).alloc (.cells zz9 44)) = w3 at *
 have HZ3 := hd_ hz3
 have HS := hd_ HS0
 clear HS0 hz3
 have f := (HS.out.get 2 rfl).cell
 have ft := (HS.out.get 1 rfl).cell
 have hONE : Hid (∀ u ∈ (zz9 : Array Value).toList, u.oneCell' = true) := hd_ (by intro u hu; simp only [List.mem_cons, List.not_mem_nil, or_false] at hu; rcases hu with rfl | rfl | rfl | rfl | rfl | rfl | rfl | rfl | rfl | rfl | rfl | rfl | rfl <;> rfl)
 go_wp2_with fail
 refine (cacheOk_any ((x0, x1, x2), (x3, x4, x5, x6), (x7, x8, x9, x10), x11, x12) _ lo0 hi0 _ (shCache.R_below HR0.out HS.out.1 hh0) (Nat.le_trans hh0 HS.out.1.size) HF0.out).mono ?_
 rintro e1 w4 ⟨rfl, hb⟩
 have hs3 := hb.size
 have HS := hd_ (HS.out.below hb)
 clear hb f ft
 have f := (HS.out.get 2 rfl).cell
 have ft := (HS.out.get 1 rfl).cell
 cases hck : cacheP ((x0, x1, x2), (x3, x4, x5, x6), (x7, x8, x9, x10), x11, x12) with
 | false =>
  have HC := hd_ (show beginCode ((x0, x1, x2), (x3, x4, x5, x6), (x7, x8, x9, x10), x11, x12) (root, l) s2 = 1 from by unfold beginCode; rw [if_pos (by rw [hck]; simp)])
  have HOUT := hd_ (show beginOut ((x0, x1, x2), (x3, x4, x5, x6), (x7, x8, x9, x10), x11, x12) (root, l) s2 = zeroC by unfold beginOut; rw [if_neg (by rw [HC.out]; decide)])
  go_wp2_with (first | fail | (refine wpList_storeAll rfl 44 (.tmp 6) (.tmp 23) rfl (w.heap.size + 1 + 1) zz9 rfl rfl (HS.out.get 0 rfl) (by kernel_rfl) rfl hONE.out ?_; intro wF hbF hoF hzF))
  have hsz := HS.out.1.size
  refine bodyPost_ret (results_cell_tmpB (P := Tryz.prog) rfl _ _ (w.heap.size + 1 + 1) 44 zz9 (0, 0) _ rfl hbF Tryz.underlying44 rfl (by kernel_rfl)) rfl ⟨[.int .i64 0, .slice none 0 0, .slice none 0 0, .int .i64 0, .int .i64 0, .int .i64 0, .slice none 0 0, .int .i64 0, .int .i64 0, .int .i64 0, .slice none 0 0, .slice none 0 0, .slice none 0 0], by rw [show (beginR ((x0, x1, x2), (x3, x4, x5, x6), (x7, x8, x9, x10), x11, x12) (root, l) s2).2 = 1 from HC.out]; rfl, by rw [show (beginR ((x0, x1, x2), (x3, x4, x5, x6), (x7, x8, x9, x10), x11, x12) (root, l) s2).1 = zeroC from HOUT.out]; exact zero_Own _ _ _ (by have := hoF.size; omega), (HS.out.1).trans (hoF.below1 (by omega) (HS.out.1).size)⟩
 | true =>
 go_wp2_with fail
 refine (implBtreeOk_any root l AL cl lo1 hi1 _ (shBtree.R_below HR1.out HS.out.1 hh1) (Nat.le_trans hh1 HS.out.1.size) HF1.out (HEE.out.below HS.out.1)).mono ?_
 rintro e1 w5 ⟨rfl, hb⟩
 have hs4 := hb.size
 have HS := hd_ (HS.out.below hb)
 clear hb f ft
 have f := (HS.out.get 2 rfl).cell
 have ft := (HS.out.get 1 rfl).cell
 cases hbk : btreeP (root, l) with
 | false =>
  have HC := hd_ (show beginCode ((x0, x1, x2), (x3, x4, x5, x6), (x7, x8, x9, x10), x11, x12) (root, l) s2 = 1 from by unfold beginCode; rw [if_pos (by rw [hbk]; simp)])
  have HOUT := hd_ (show beginOut ((x0, x1, x2), (x3, x4, x5, x6), (x7, x8, x9, x10), x11, x12) (root, l) s2 = zeroC by unfold beginOut; rw [if_neg (by rw [HC.out]; decide)])
  go_wp2_with (first | fail | (refine wpList_storeAll rfl 44 (.tmp 6) (.tmp 23) rfl (w.heap.size + 1 + 1) zz9 rfl rfl (HS.out.get 0 rfl) (by kernel_rfl) rfl hONE.out ?_; intro wF hbF hoF hzF))
  have hsz := HS.out.1.size
  refine bodyPost_ret (results_cell_tmpB (P := Tryz.prog) rfl _ _ (w.heap.size + 1 + 1) 44 zz9 (0, 0) _ rfl hbF Tryz.underlying44 rfl (by kernel_rfl)) rfl ⟨[.int .i64 0, .slice none 0 0, .slice none 0 0, .int .i64 0, .int .i64 0, .int .i64 0, .slice none 0 0, .int .i64 0, .int .i64 0, .int .i64 0, .slice none 0 0, .slice none 0 0, .slice none 0 0], by rw [show (beginR ((x0, x1, x2), (x3, x4, x5, x6), (x7, x8, x9, x10), x11, x12) (root, l) s2).2 = 1 from HC.out]; rfl, by rw [show (beginR ((x0, x1, x2), (x3, x4, x5, x6), (x7, x8, x9, x10), x11, x12) (root, l) s2).1 = zeroC from HOUT.out]; exact zero_Own _ _ _ (by have := hoF.size; omega), (HS.out.1).trans (hoF.below1 (by omega) (HS.out.1).size)⟩
 | true =>
 go_wp2_with fail
 refine (HIN.out _ _ _ _).mono ?_
 rintro e1 w5b ⟨rfl, rfl⟩
 cases hnk : inB s2 0 2000000000 with
 | false =>
  have HC := hd_ (show beginCode ((x0, x1, x2), (x3, x4, x5, x6), (x7, x8, x9, x10), x11, x12) (root, l) s2 = 1 from by unfold beginCode; rw [if_pos (by rw [hnk]; simp)])
  have HOUT := hd_ (show beginOut ((x0, x1, x2), (x3, x4, x5, x6), (x7, x8, x9, x10), x11, x12) (root, l) s2 = zeroC by unfold beginOut; rw [if_neg (by rw [HC.out]; decide)])
  go_wp2_with (first | fail | (refine wpList_storeAll rfl 44 (.tmp 6) (.tmp 23) rfl (w.heap.size + 1 + 1) zz9 rfl rfl (HS.out.get 0 rfl) (by kernel_rfl) rfl hONE.out ?_; intro wF hbF hoF hzF))
  have hsz := HS.out.1.size
  refine bodyPost_ret (results_cell_tmpB (P := Tryz.prog) rfl _ _ (w.heap.size + 1 + 1) 44 zz9 (0, 0) _ rfl hbF Tryz.underlying44 rfl (by kernel_rfl)) rfl ⟨[.int .i64 0, .slice none 0 0, .slice none 0 0, .int .i64 0, .int .i64 0, .int .i64 0, .slice none 0 0, .int .i64 0, .int .i64 0, .int .i64 0, .slice none 0 0, .slice none 0 0, .slice none 0 0], by rw [show (beginR ((x0, x1, x2), (x3, x4, x5, x6), (x7, x8, x9, x10), x11, x12) (root, l) s2).2 = 1 from HC.out]; rfl, by rw [show (beginR ((x0, x1, x2), (x3, x4, x5, x6), (x7, x8, x9, x10), x11, x12) (root, l) s2).1 = zeroC from HOUT.out]; exact zero_Own _ _ _ (by have := hoF.size; omega), (HS.out.1).trans (hoF.below1 (by omega) (HS.out.1).size)⟩
 | true =>
 go_wp2_with fail
 have hsw := HZ3.out
 refine (copyCache_f x0 x1 x2 x3 x4 x5 x6 x7 x8 x9 x10 x11 x12 A1 c1 A2 c2 A6 c6 A10 c10 A11 c11 A12 c12 lo0 hi0 _ (shCache.R_below HR0.out HS.out.1 hh0) (Nat.le_trans hh0 HS.out.1.size) HF0.out).mono ?_
 rintro e1 w6 ⟨g, rfl, hg, D1, j1, D2, j2, D6, j6, D10, j10, D11, j11, D12, j12, hkg, hog, hb⟩
 have hs6 := hb.size
 have HS5 := HS
 have HBC := hd_ hb
 have HS := hd_ (HS.out.below hb)
 clear hb f ft
 have ft := (HS.out.get 1 rfl).cell
 have HBG := hd_ (begin_any x0 x1 x2 x3 x4 x5 x6 x7 x8 x9 x10 x11 x12 D1 j1 D2 j2 D6 j6 D10 j10 D11 j11 D12 j12 root l AL cl s2 g _ lo1 hi1 w6 hkg hog (shBtree.R_below HR1.out HS.out.1 hh1) hg (Nat.le_trans hh1 HS5.out.1.size) hck hbk hnk HF0.out)
 clear hkg hog
 go_wp2_with fail
 refine HBG.out.mono ?_
 rintro e1 w7 ⟨rfl, hb, hpost⟩
 have hs7 := hb.size
 have HPOST := hd_ hpost
 have HS := hd_ (HS5.out.below (HBC.out.trans hb))
 clear hpost hb HBG ft
 by_cases hcode : beginCode ((x0, x1, x2), (x3, x4, x5, x6), (x7, x8, x9, x10), x11, x12) (root, l) s2 = 0
 rotate_left
 ·have HC := hd_ (rfl : beginCode ((x0, x1, x2), (x3, x4, x5, x6), (x7, x8, x9, x10), x11, x12) (root, l) s2 = beginCode ((x0, x1, x2), (x3, x4, x5, x6), (x7, x8, x9, x10), x11, x12) (root, l) s2)
  have HOUT := hd_ (show beginOut ((x0, x1, x2), (x3, x4, x5, x6), (x7, x8, x9, x10), x11, x12) (root, l) s2 = zeroC by unfold beginOut; rw [if_neg hcode])
  have HSND := hd_ (show (beginR ((x0, x1, x2), (x3, x4, x5, x6), (x7, x8, x9, x10), x11, x12) (root, l) s2).2 = beginCode ((x0, x1, x2), (x3, x4, x5, x6), (x7, x8, x9, x10), x11, x12) (root, l) s2 from rfl)
  generalize beginCode ((x0, x1, x2), (x3, x4, x5, x6), (x7, x8, x9, x10), x11, x12) (root, l) s2 = CODE at *
  have q1 : (CODE != 0) = true := bne_iff_ne.2 hcode
  clear hcode HPOST
  go_wp2_with (first | fail | (refine wpList_storeAll rfl 44 (.tmp 6) (.tmp 32) rfl (w.heap.size + 1 + 1) zz9 rfl rfl (HS.out.get 0 rfl) (by kernel_rfl) rfl hONE.out ?_; intro wF hbF hoF hzF))
  have hsz := HS.out.1.size
  refine bodyPost_ret (results_cell_tmpB (P := Tryz.prog) rfl _ _ (w.heap.size + 1 + 1) 44 zz9 (0, 0) _ rfl hbF Tryz.underlying44 rfl (by kernel_rfl)) rfl ⟨[.int .i64 0, .slice none 0 0, .slice none 0 0, .int .i64 0, .int .i64 0, .int .i64 0, .slice none 0 0, .int .i64 0, .int .i64 0, .int .i64 0, .slice none 0 0, .slice none 0 0, .slice none 0 0], by rw [HSND.out]; rfl, by rw [show (beginR ((x0, x1, x2), (x3, x4, x5, x6), (x7, x8, x9, x10), x11, x12) (root, l) s2).1 = zeroC from HOUT.out]; exact zero_Own _ _ _ (by have := hoF.size; omega), (HS.out.1).trans (hoF.below1 (by omega) (HS.out.1).size)⟩
 ·obtain ⟨us, hku, hou⟩ := HPOST.out hcode
  have HFST := hd_ (show (beginR ((x0, x1, x2), (x3, x4, x5, x6), (x7, x8, x9, x10), x11, x12) (root, l) s2).1 = beginOut ((x0, x1, x2), (x3, x4, x5, x6), (x7, x8, x9, x10), x11, x12) (root, l) s2 from rfl)
  have HSND := hd_ (show (beginR ((x0, x1, x2), (x3, x4, x5, x6), (x7, x8, x9, x10), x11, x12) (root, l) s2).2 = 0 from hcode)
  rw [hcode]
  generalize beginOut ((x0, x1, x2), (x3, x4, x5, x6), (x7, x8, x9, x10), x11, x12) (root, l) s2 = Z at *
  clear hcode HPOST
  obtain ⟨⟨z0, z1, z2⟩, ⟨z3, z4, z5, z6⟩, ⟨z7, z8, z9, z10⟩, z11, z12⟩ := Z
  obtain ⟨D1, j1, D2, j2, D6, j6, D10, j10, D11, j11, D12, j12, rfl, _⟩ := shCache_R.1 hou.reads
  have fg := hku.cell
  have HOU := hd_ hou
  have hONQ : Hid (∀ u ∈ (#[.int .i64 z0, .slice D1 z1.length j1, .slice D2 z2.length j2, .int .i64 z3, .int .i64 z4, .int .i64 z5, .slice D6 z6.length j6, .int .i64 z7, .int .i64 z8, .int .i64 z9, .slice D10 z10.length j10, .slice D11 z11.length j11, .slice D12 z12.length j12] : Array Value).toList, u.oneCell' = true) := hd_ (by intro u hu; simp only [List.mem_cons, List.not_mem_nil, or_false] at hu; rcases hu with rfl | rfl | rfl | rfl | rfl | rfl | rfl | rfl | rfl | rfl | rfl | rfl | rfl <;> rfl)
  clear hku hou
  go_wp2_with (first | fail | (refine wpList_storeAll rfl 44 (.tmp 6) (.tmp 36) rfl (w.heap.size + 1 + 1) #[.int .i64 z0, .slice D1 z1.length j1, .slice D2 z2.length j2, .int .i64 z3, .int .i64 z4, .int .i64 z5, .slice D6 z6.length j6, .int .i64 z7, .int .i64 z8, .int .i64 z9, .slice D10 z10.length j10, .slice D11 z11.length j11, .slice D12 z12.length j12] rfl rfl (HS.out.get 0 rfl) (by kernel_rfl) rfl hONQ.out ?_; intro wF hbF hoF hzF))
  have hsz := HS.out.1.size
  have hs5z := HS5.out.1.size
  refine bodyPost_ret (results_cell_tmpB (P := Tryz.prog) rfl _ _ (w.heap.size + 1 + 1) 44 #[.int .i64 z0, .slice D1 z1.length j1, .slice D2 z2.length j2, .int .i64 z3, .int .i64 z4, .int .i64 z5, .slice D6 z6.length j6, .int .i64 z7, .int .i64 z8, .int .i64 z9, .slice D10 z10.length j10, .slice D11 z11.length j11, .slice D12 z12.length j12] (0, 0) _ rfl hbF Tryz.underlying44 rfl (by kernel_rfl)) rfl ⟨[.int .i64 z0, .slice D1 z1.length j1, .slice D2 z2.length j2, .int .i64 z3, .int .i64 z4, .int .i64 z5, .slice D6 z6.length j6, .int .i64 z7, .int .i64 z8, .int .i64 z9, .slice D10 z10.length j10, .slice D11 z11.length j11, .slice D12 z12.length j12], by rw [HSND.out]; rfl, by rw [HFST.out]; exact (HOU.out.outOf hoF (.inl (by omega))).more (by omega) (by omega), (HS.out.1).trans (hoF.below1 (by omega) (HS.out.1).size)⟩
end Go.Proofs.YtnnabkldceklmaaGreatDoor
