/- The reference's BeginTop walked. -/
import Derived.Test.YtnnabkldceklmaaGreatDoorJoinBTAz
import Derived.Test.YtnnabkldceklmaaGreatDoorJoinBTBj
import Derived.Test.YtnnabkldceklmaaGreatDoorJoinBTBl
import Derived.Test.YtnnabkldceklmaaGreatDoorJoinBTBm
import Derived.Test.YtnnabkldceklmaaGreatDoorJoinBTBp
namespace Go.Proofs.YtnnabkldceklmaaGreatDoor
open Go.RowKit
theorem zero_R (W : World) (lo hi : Nat) : shCache.R W lo hi [.int .i64 0, .slice none 0 0, .slice none 0 0, .int .i64 0, .int .i64 0, .int .i64 0, .slice none 0 0, .int .i64 0, .int .i64 0, .int .i64 0, .slice none 0 0, .slice none 0 0, .slice none 0 0] zeroC := by
 refine shCache_R.2 ⟨none, 0, none, 0, none, 0, none, 0, none, 0, none, 0, rfl, ?_, ?_, ?_, ?_, ?_, ?_⟩ <;> exact fun h => absurd h (by simp)
set_option maxHeartbeats 32000000 in
set_option maxRecDepth 100000 in
theorem specBeginTop_f (X0 : TyCache) (X1 : TyBtree) (s2 : Int) (vs0 vs1 : List Value) (lo0 hi0 lo1 hi1 : Nat) (w : World) (h0 : shCache.R w lo0 hi0 vs0 X0) (h1 : shBtree.R w lo1 hi1 vs1 X1) (hh0 : hi0 ≤ w.heap.size) (hh1 : hi1 ≤ w.heap.size) (hf0 : shCache.fit 1048576 X0) (hf1 : shBtree.fit 1048576 X1) :
  Calls Tryz.prog 10 #[.agg vs0.toArray, .agg vs1.toArray, .int .i64 s2] w fun e w' => ∃ us : List Value, e = .returned (.tuple #[.agg us.toArray, .int .i64 (beginR X0 X1 s2).2]) ∧ shCache.R w' w.heap.size w'.heap.size us (beginR X0 X1 s2).1 ∧ Below w.heap.size w w' := by
 obtain ⟨⟨x0, x1, x2⟩, ⟨x3, x4, x5, x6⟩, ⟨x7, x8, x9, x10⟩, x11, x12⟩ := X0
 obtain ⟨root, l⟩ := X1
 obtain ⟨A1, c1, A2, c2, A6, c6, A10, c10, A11, c11, A12, c12, rfl, _⟩ := shCache_R.1 h0
 obtain ⟨AL, cl, rfl, _⟩ := shBtree_R.1 h1
 have HF0 := hd_ hf0; have HF1 := hd_ hf1
 obtain ⟨⟨_, ⟨hn1, _⟩, ⟨hn2, _⟩⟩, ⟨_, _, _, ⟨hn6, _⟩⟩, ⟨_, _, _, ⟨hn10, _⟩⟩, ⟨hn11, _⟩, ⟨hn12, _⟩⟩ := hf0
 obtain ⟨_, hnl, _⟩ := hf1
 dsimp only at hn1 hn2 hn6 hn10 hn11 hn12 hnl
 have HR0 := hd_ h0; have HR1 := hd_ h1
 have HIN := hd_ (fun a lo hi W => l00InP_any a lo hi W)
 have HS0 : Stand w [(w.heap.size + 1 + 1, w.heap.size + 1 + 1 + 1, fun W => Blk W (w.heap.size + 1 + 1) 44 zz9), (w.heap.size + 1, w.heap.size + 1 + 1, fun W => Blk W (w.heap.size + 1) 50 #[.int .i64 root, .slice AL l.length cl]), (w.heap.size, w.heap.size + 1, fun W => Blk W w.heap.size 44 #[.int .i64 x0, .slice A1 x1.length c1, .slice A2 x2.length c2, .int .i64 x3, .int .i64 x4, .int .i64 x5, .slice A6 x6.length c6, .int .i64 x7, .int .i64 x8, .int .i64 x9, .slice A10 x10.length c10, .slice A11 x11.length c11, .slice A12 x12.length c12])] (((w.alloc (.cells #[.int .i64 x0, .slice A1 x1.length c1, .slice A2 x2.length c2, .int .i64 x3, .int .i64 x4, .int .i64 x5, .slice A6 x6.length c6, .int .i64 x7, .int .i64 x8, .int .i64 x9, .slice A10 x10.length c10, .slice A11 x11.length c11, .slice A12 x12.length c12] 44)).alloc (.cells #[.int .i64 root, .slice AL l.length cl] 50)).alloc (.cells zz9 44)) := by
  have := ((((Stand.nil w).box 44 #[.int .i64 x0, .slice A1 x1.length c1, .slice A2 x2.length c2, .int .i64 x3, .int .i64 x4, .int .i64 x5, .slice A6 x6.length c6, .int .i64 x7, .int .i64 x8, .int .i64 x9, .slice A10 x10.length c10, .slice A11 x11.length c11, .slice A12 x12.length c12]).box 50 #[.int .i64 root, .slice AL l.length cl]).box 44 zz9)
  rw [heap_alloc_size1, heap_alloc_size1] at this
  exact this
 have hz3 : (((w.alloc (.cells #[.int .i64 x0, .slice A1 x1.length c1, .slice A2 x2.length c2, .int .i64 x3, .int .i64 x4, .int .i64 x5, .slice A6 x6.length c6, .int .i64 x7, .int .i64 x8, .int .i64 x9, .slice A10 x10.length c10, .slice A11 x11.length c11, .slice A12 x12.length c12] 44)).alloc (.cells #[.int .i64 root, .slice AL l.length cl] 50)).alloc (.cells zz9 44)).heap.size = w.heap.size + 1 + 1 + 1 := by simp
 clear h0 h1
 go_enter Tryz.func10, Tryz.ntmps10
 (try dsimp only [List.append])
 go_upto_region 1 with fail
 generalize (((w.alloc (.cells #[.int .i64 x0, .slice A1 x1.length c1, .slice A2 x2.length c2, .int .i64 x3, .int .i64 x4, .int .i64 x5, .slice A6 x6.length c6, .int .i64 x7, .int .i64 x8, .int .i64 x9, .slice A10 x10.length c10, .slice A11 x11.length c11, .slice A12 x12.length c12] 44)).alloc (.cells #[.int .i64 root, .slice AL l.length cl] 50)).alloc (.cells zz9 44)) = w3 at *
 have HZ3 := hd_ hz3
 have HS := hd_ HS0
 clear HS0 hz3
 have f := (HS.out.get 2 rfl).cell
 have ft := (HS.out.get 1 rfl).cell
 have hONE : Hid (∀ u ∈ (zz9 : Array Value).toList, u.oneCell' = true) := hd_ (by intro u hu; simp only [List.mem_cons, List.not_mem_nil, or_false] at hu; rcases hu with rfl | rfl | rfl | rfl | rfl | rfl | rfl | rfl | rfl | rfl | rfl | rfl | rfl <;> rfl)
 go_wp2_with fail
 refine (specCacheOk_any ((x0, x1, x2), (x3, x4, x5, x6), (x7, x8, x9, x10), x11, x12) _ lo0 hi0 _ (shCache.R_below HR0.out HS.out.1 hh0) (Nat.le_trans hh0 HS.out.1.size) HF0.out).mono ?_
 rintro e1 w4 ⟨rfl, hb⟩
 have hs3 := hb.size
 have HS := hd_ (HS.out.below hb)
 clear hb f ft
 have f := (HS.out.get 2 rfl).cell
 have ft := (HS.out.get 1 rfl).cell
 cases hck : cacheP ((x0, x1, x2), (x3, x4, x5, x6), (x7, x8, x9, x10), x11, x12) with
 | false =>
  have HC := hd_ (show beginCode ((x0, x1, x2), (x3, x4, x5, x6), (x7, x8, x9, x10), x11, x12) (root, l) s2 = 1 from by unfold beginCode; rw [if_pos (by rw [hck]; simp)])
  have HOUT := hd_ (show beginOut ((x0, x1, x2), (x3, x4, x5, x6), (x7, x8, x9, x10), x11, x12) (root, l) s2 = zeroC by unfold beginOut; rw [if_neg (by rw [HC.out]; decide)])
  go_wp2_with (first | fail | (refine wpList_storeAll rfl 44 (.tmp 6) (.tmp 28) rfl (w.heap.size + 1 + 1) zz9 rfl rfl (HS.out.get 0 rfl) (by kernel_rfl) rfl hONE.out ?_; intro wF hbF hoF hzF))
  refine bodyPost_ret (results_cell_tmpB (P := Tryz.prog) rfl _ _ (w.heap.size + 1 + 1) 44 zz9 (0, 0) _ rfl hbF Tryz.underlying44 rfl (by kernel_rfl)) rfl ⟨[.int .i64 0, .slice none 0 0, .slice none 0 0, .int .i64 0, .int .i64 0, .int .i64 0, .slice none 0 0, .int .i64 0, .int .i64 0, .int .i64 0, .slice none 0 0, .slice none 0 0, .slice none 0 0], by rw [show (beginR ((x0, x1, x2), (x3, x4, x5, x6), (x7, x8, x9, x10), x11, x12) (root, l) s2).2 = 1 from HC.out]; rfl, by rw [show (beginR ((x0, x1, x2), (x3, x4, x5, x6), (x7, x8, x9, x10), x11, x12) (root, l) s2).1 = zeroC from HOUT.out]; exact zero_R _ _ _, (HS.out.1).trans (hoF.below1 (by omega) (HS.out.1).size)⟩
 | true =>
 go_wp2_with fail
 refine (specBtreeOk_any (root, l) _ lo1 hi1 _ (shBtree.R_below HR1.out HS.out.1 hh1) (Nat.le_trans hh1 HS.out.1.size) HF1.out).mono ?_
 rintro e1 w5 ⟨rfl, hb⟩
 have hs4 := hb.size
 have HS := hd_ (HS.out.below hb)
 clear hb f ft
 have f := (HS.out.get 2 rfl).cell
 have ft := (HS.out.get 1 rfl).cell
 cases hbk : btreeP (root, l) with
 | false =>
  have HC := hd_ (show beginCode ((x0, x1, x2), (x3, x4, x5, x6), (x7, x8, x9, x10), x11, x12) (root, l) s2 = 1 from by unfold beginCode; rw [if_pos (by rw [hbk]; simp)])
  have HOUT := hd_ (show beginOut ((x0, x1, x2), (x3, x4, x5, x6), (x7, x8, x9, x10), x11, x12) (root, l) s2 = zeroC by unfold beginOut; rw [if_neg (by rw [HC.out]; decide)])
  go_wp2_with (first | fail | (refine wpList_storeAll rfl 44 (.tmp 6) (.tmp 28) rfl (w.heap.size + 1 + 1) zz9 rfl rfl (HS.out.get 0 rfl) (by kernel_rfl) rfl hONE.out ?_; intro wF hbF hoF hzF))
  refine bodyPost_ret (results_cell_tmpB (P := Tryz.prog) rfl _ _ (w.heap.size + 1 + 1) 44 zz9 (0, 0) _ rfl hbF Tryz.underlying44 rfl (by kernel_rfl)) rfl ⟨[.int .i64 0, .slice none 0 0, .slice none 0 0, .int .i64 0, .int .i64 0, .int .i64 0, .slice none 0 0, .int .i64 0, .int .i64 0, .int .i64 0, .slice none 0 0, .slice none 0 0, .slice none 0 0], by rw [show (beginR ((x0, x1, x2), (x3, x4, x5, x6), (x7, x8, x9, x10), x11, x12) (root, l) s2).2 = 1 from HC.out]; rfl, by rw [show (beginR ((x0, x1, x2), (x3, x4, x5, x6), (x7, x8, x9, x10), x11, x12) (root, l) s2).1 = zeroC from HOUT.out]; exact zero_R _ _ _, (HS.out.1).trans (hoF.below1 (by omega) (HS.out.1).size)⟩
 | true =>
 go_wp2_with fail
 refine (HIN.out _ _ _ _).mono ?_
 rintro e1 w5b ⟨rfl, rfl⟩
 cases hnk : inB s2 0 2000000000 with
 | false =>
  have HC := hd_ (show beginCode ((x0, x1, x2), (x3, x4, x5, x6), (x7, x8, x9, x10), x11, x12) (root, l) s2 = 1 from by unfold beginCode; rw [if_pos (by rw [hnk]; simp)])
  have HOUT := hd_ (show beginOut ((x0, x1, x2), (x3, x4, x5, x6), (x7, x8, x9, x10), x11, x12) (root, l) s2 = zeroC by unfold beginOut; rw [if_neg (by rw [HC.out]; decide)])
  go_wp2_with (first | fail | (refine wpList_storeAll rfl 44 (.tmp 6) (.tmp 28) rfl (w.heap.size + 1 + 1) zz9 rfl rfl (HS.out.get 0 rfl) (by kernel_rfl) rfl hONE.out ?_; intro wF hbF hoF hzF))
  refine bodyPost_ret (results_cell_tmpB (P := Tryz.prog) rfl _ _ (w.heap.size + 1 + 1) 44 zz9 (0, 0) _ rfl hbF Tryz.underlying44 rfl (by kernel_rfl)) rfl ⟨[.int .i64 0, .slice none 0 0, .slice none 0 0, .int .i64 0, .int .i64 0, .int .i64 0, .slice none 0 0, .int .i64 0, .int .i64 0, .int .i64 0, .slice none 0 0, .slice none 0 0, .slice none 0 0], by rw [show (beginR ((x0, x1, x2), (x3, x4, x5, x6), (x7, x8, x9, x10), x11, x12) (root, l) s2).2 = 1 from HC.out]; rfl, by rw [show (beginR ((x0, x1, x2), (x3, x4, x5, x6), (x7, x8, x9, x10), x11, x12) (root, l) s2).1 = zeroC from HOUT.out]; exact zero_R _ _ _, (HS.out.1).trans (hoF.below1 (by omega) (HS.out.1).size)⟩
 | true =>
 have HOK := hd_ (show (cacheP ((x0, x1, x2), (x3, x4, x5, x6), (x7, x8, x9, x10), x11, x12) && btreeP (root, l) && inB s2 0 2000000000) = true by rw [hck, hbk, hnk]; rfl)
 by_cases hd0 : x12.length = 0
 rotate_left
 ·have i1 : (0 : Int) < (x12.length : Int) := by omega
  have HC := hd_ (show beginCode ((x0, x1, x2), (x3, x4, x5, x6), (x7, x8, x9, x10), x11, x12) (root, l) s2 = 5 from by unfold beginCode; rw [if_neg (by rw [HOK.out]; simp), if_pos (by rw [decide_eq_false hd0]; rfl)])
  have HOUT := hd_ (show beginOut ((x0, x1, x2), (x3, x4, x5, x6), (x7, x8, x9, x10), x11, x12) (root, l) s2 = zeroC by unfold beginOut; rw [if_neg (by rw [HC.out]; decide)])
  go_wp2_with (first | fail | (refine wpList_storeAll rfl 44 (.tmp 6) (.tmp 46) rfl (w.heap.size + 1 + 1) zz9 rfl rfl (HS.out.get 0 rfl) (by kernel_rfl) rfl hONE.out ?_; intro wF hbF hoF hzF))
  refine bodyPost_ret (results_cell_tmpB (P := Tryz.prog) rfl _ _ (w.heap.size + 1 + 1) 44 zz9 (0, 0) _ rfl hbF Tryz.underlying44 rfl (by kernel_rfl)) rfl ⟨[.int .i64 0, .slice none 0 0, .slice none 0 0, .int .i64 0, .int .i64 0, .int .i64 0, .slice none 0 0, .int .i64 0, .int .i64 0, .int .i64 0, .slice none 0 0, .slice none 0 0, .slice none 0 0], by rw [show (beginR ((x0, x1, x2), (x3, x4, x5, x6), (x7, x8, x9, x10), x11, x12) (root, l) s2).2 = 5 from HC.out]; rfl, by rw [show (beginR ((x0, x1, x2), (x3, x4, x5, x6), (x7, x8, x9, x10), x11, x12) (root, l) s2).1 = zeroC from HOUT.out]; exact zero_R _ _ _, (HS.out.1).trans (hoF.below1 (by omega) (HS.out.1).size)⟩
 have i1 : ¬ (0 : Int) < (x12.length : Int) := by omega
 have i1b : ¬ 0 < x12.length := by omega
 have i1c : decide ((0 : Int) < (x12.length : Int)) = false := decide_eq_false i1
 have i1d : x12 = [] := List.eq_nil_of_length_eq_zero hd0
 by_cases hd1 : x2.length = 0
 rotate_left
 ·have i2 : (0 : Int) < (x2.length : Int) := by omega
  have HC := hd_ (show beginCode ((x0, x1, x2), (x3, x4, x5, x6), (x7, x8, x9, x10), x11, x12) (root, l) s2 = 5 from by unfold beginCode; rw [if_neg (by rw [HOK.out]; simp), if_pos (by rw [decide_eq_false hd1, Bool.and_false]; rfl)])
  have HOUT := hd_ (show beginOut ((x0, x1, x2), (x3, x4, x5, x6), (x7, x8, x9, x10), x11, x12) (root, l) s2 = zeroC by unfold beginOut; rw [if_neg (by rw [HC.out]; decide)])
  go_wp2_with (first | fail | (refine wpList_storeAll rfl 44 (.tmp 6) (.tmp 46) rfl (w.heap.size + 1 + 1) zz9 rfl rfl (HS.out.get 0 rfl) (by kernel_rfl) rfl hONE.out ?_; intro wF hbF hoF hzF))
  refine bodyPost_ret (results_cell_tmpB (P := Tryz.prog) rfl _ _ (w.heap.size + 1 + 1) 44 zz9 (0, 0) _ rfl hbF Tryz.underlying44 rfl (by kernel_rfl)) rfl ⟨[.int .i64 0, .slice none 0 0, .slice none 0 0, .int .i64 0, .int .i64 0, .int .i64 0, .slice none 0 0, .int .i64 0, .int .i64 0, .int .i64 0, .slice none 0 0, .slice none 0 0, .slice none 0 0], by rw [show (beginR ((x0, x1, x2), (x3, x4, x5, x6), (x7, x8, x9, x10), x11, x12) (root, l) s2).2 = 5 from HC.out]; rfl, by rw [show (beginR ((x0, x1, x2), (x3, x4, x5, x6), (x7, x8, x9, x10), x11, x12) (root, l) s2).1 = zeroC from HOUT.out]; exact zero_R _ _ _, (HS.out.1).trans (hoF.below1 (by omega) (HS.out.1).size)⟩
 have i2 : ¬ (0 : Int) < (x2.length : Int) := by omega
 have i2d : x2 = [] := List.eq_nil_of_length_eq_zero hd1
 have HD0 := hd_ hd0; have HD1 := hd_ hd1
 clear hd0 hd1 i1 i1b i1c i2
 subst i1d i2d
 go_wp2_with fail
 refine (l18Zero_any (x7, x8, x9, x10) _ lo0 hi0 _ (shCache_f7 (shCache.R_below HR0.out HS.out.1 hh0))).mono ?_
 rintro e1 w6 ⟨rfl, hb⟩
 have hs5 := hb.size
 have HS := hd_ (HS.out.below hb)
 clear hb f ft
 have f := (HS.out.get 2 rfl).cell
 have ft := (HS.out.get 1 rfl).cell
 cases hzk : zeroT (x7, x8, x9, x10) with
 | false =>
  have HC := hd_ (show beginCode ((x0, x1, []), (x3, x4, x5, x6), (x7, x8, x9, x10), x11, []) (root, l) s2 = 5 from by unfold beginCode; rw [if_neg (by rw [HOK.out]; simp), if_pos (by rw [hzk, Bool.and_false])])
  have HOUT := hd_ (show beginOut ((x0, x1, []), (x3, x4, x5, x6), (x7, x8, x9, x10), x11, []) (root, l) s2 = zeroC by unfold beginOut; rw [if_neg (by rw [HC.out]; decide)])
  go_wp2_with (first | fail | (refine wpList_storeAll rfl 44 (.tmp 6) (.tmp 46) rfl (w.heap.size + 1 + 1) zz9 rfl rfl (HS.out.get 0 rfl) (by kernel_rfl) rfl hONE.out ?_; intro wF hbF hoF hzF))
  refine bodyPost_ret (results_cell_tmpB (P := Tryz.prog) rfl _ _ (w.heap.size + 1 + 1) 44 zz9 (0, 0) _ rfl hbF Tryz.underlying44 rfl (by kernel_rfl)) rfl ⟨[.int .i64 0, .slice none 0 0, .slice none 0 0, .int .i64 0, .int .i64 0, .int .i64 0, .slice none 0 0, .int .i64 0, .int .i64 0, .int .i64 0, .slice none 0 0, .slice none 0 0, .slice none 0 0], by rw [show (beginR ((x0, x1, []), (x3, x4, x5, x6), (x7, x8, x9, x10), x11, []) (root, l) s2).2 = 5 from HC.out]; rfl, by rw [show (beginR ((x0, x1, []), (x3, x4, x5, x6), (x7, x8, x9, x10), x11, []) (root, l) s2).1 = zeroC from HOUT.out]; exact zero_R _ _ _, (HS.out.1).trans (hoF.below1 (by omega) (HS.out.1).size)⟩
 | true =>
 have HZK := hd_ hzk
 have hx3 : 1 ≤ x3 ∧ x3 ≤ 2000000000 := by
  have hc := HOK.out
  simp only [Bool.and_eq_true] at hc
  have hc := hc.1.1
  unfold cacheP at hc
  simp only [Bool.and_eq_true, Bool.not_eq_true'] at hc
  obtain ⟨⟨⟨⟨⟨⟨⟨⟨⟨_, _⟩, _⟩, htop⟩, _⟩, hnext⟩, _⟩, hap⟩, _⟩, _⟩ := hc
  unfold topP at htop
  simp only [Bool.and_eq_true] at htop
  have h1 := htop.1.1.1
  unfold inB at h1
  simp only [Bool.and_eq_true, decide_eq_true_eq] at h1
  exact h1
 have hl64 : l.length ≤ 64 := by
  have hc := HOK.out
  simp only [Bool.and_eq_true] at hc
  have hc := hc.1.2
  unfold btreeP at hc
  rw [Bool.and_eq_true] at hc
  exact slots_few hc.1
 have HWR := hd_ (show IntKind.i64.wrap (x3 + 1) = x3 + 1 from IntWalk.i64_in _ (by omega))
 have HS7 := hd_ (HS.out.box 42 #[.int .i64 (x3 + 1), .int .i64 root, .int .i64 s2, .slice none 0 0])
 have hz7 : (w6.alloc (.cells #[.int .i64 (x3 + 1), .int .i64 root, .int .i64 s2, .slice none 0 0] 42)).heap.size = w6.heap.size + 1 := by simp
 have HZ7 := hd_ hz7
 have HB7 := hd_ ((Below.refl w6.heap.size w6).alloc (Nat.le_refl _) (.cells #[.int .i64 (x3 + 1), .int .i64 root, .int .i64 s2, .slice none 0 0] 42))
 have hwr := HWR.out
 clear hz7 hzk hck hbk hnk
 go_upto_region 6 with fail
 generalize hw7 : (w6.alloc (.cells #[.int .i64 (x3 + 1), .int .i64 root, .int .i64 s2, .slice none 0 0] 42)) = w7 at *
 clear hwr f ft hw7
 have hsw : w.heap.size + 1 + 1 + 1 ≤ w6.heap.size := by have := HZ3.out; omega
 have f := (HS7.out.get 3 rfl).cell
 have ft := (HS7.out.get 2 rfl).cell
 go_wp2_with fail
 go_loopw [9] (fun i wr => ∃ (k : Nat) (A : Option Addr) (cc : Nat), k ≤ l.length ∧ i = .int .i64 k ∧ Hid (∀ j, j < k → (seatFor ((x0, x1, []), (x3, x4, x5, x6), (x7, x8, x9, x10), x11, []) (l.getD j shSlot.d).1).2 ≠ 0) ∧ Below w6.heap.size w6 wr ∧ Blk wr w6.heap.size 42 #[.int .i64 (x3 + 1), .int .i64 root, .int .i64 s2, .slice A k cc] ∧ Own (Sh.row 88 shSeat) wr (w6.heap.size + 1) wr.heap.size [.slice A k cc] ((l.take k).map fun s => seatFor ((x0, x1, []), (x3, x4, x5, x6), (x7, x8, x9, x10), x11, []) s.1)) (fun i _ => l.length - (intOf i).toNat)
 case atStart =>
  refine ⟨0, none, 0, Nat.zero_le _, rfl, hd_ (fun j hj => absurd hj (Nat.not_lt_zero j)), HB7.out, HS7.out.get 0 rfl, Own.nil_row _ _ _⟩
 case round =>
 obtain ⟨k, A, cc, hk, rfl, hno, hbel, hblk, hO⟩ := hrel
 have HSr := hd_ (HS.out.below hbel)
 have f := (HSr.out.get 2 rfl).cell
 have ft := (HSr.out.get 1 rfl).cell
 have f8 := hblk.cell
 have hszr := hbel.size
 have HBE := hd_ hbel; have HBL := hd_ hblk; have HO := hd_ hO; have HNO := hd_ hno.out
 clear hbel hblk hO hno
 by_cases hlt : k < l.length
 ·obtain ⟨-, b', off', rfl, hb1', hb2', A2', c2', A3', c3', A4', c4', e0, -⟩ := shSlot_at (shBtree_f1 (shBtree.R_below HR1.out HSr.out.1 hh1)) hlt
  have hX2 : l[k] = l.getD k shSlot.d := by rw [List.getD_eq_getElem?_getD, List.getElem?_eq_getElem hlt]; rfl
  obtain ⟨y, hy⟩ : ∃ y, y = (l.getD k shSlot.d).1 := ⟨_, rfl⟩
  rw [← hy] at e0
  have HX2 := hd_ hX2; have HY := hd_ hy
  clear hX2 hy
  have i1 : (k : Int) < (l.length : Int) := by omega
  have hbs : w6.heap.size + 1 ≤ wr.heap.size := HBL.out.lt
  have HN := hd_ (l18Slot_any A11 c11 x11 y lo0 hi0 wr (shCache_f11 (shCache.R_below HR0.out HSr.out.1 hh0)) hn11)
  have HT := hd_ (l18Slot_any A6 c6 x6 y lo0 hi0 wr (shTop_f3 (shCache_f3 (shCache.R_below HR0.out HSr.out.1 hh0))) hn6)
  have hnx := fun (h : (seatFor ((x0, x1, []), (x3, x4, x5, x6), (x7, x8, x9, x10), x11, []) (l.getD k shSlot.d).1).2 ≠ 0) => show ∀ j, j < k + 1 → (seatFor ((x0, x1, []), (x3, x4, x5, x6), (x7, x8, x9, x10), x11, []) (l.getD j shSlot.d).1).2 ≠ 0 from fun j hj => by
   rcases Nat.lt_or_ge j k with h1 | h1
   ·exact HNO.out j h1
   ·obtain rfl : j = k := by omega
    exact h
  by_cases hs1 : slotFor x11 y = 0
  ·have q1 : (slotFor x11 y == 0) = true := beq_iff_eq.2 hs1
   have hsd : seatFor ((x0, x1, []), (x3, x4, x5, x6), (x7, x8, x9, x10), x11, []) (l.getD k shSlot.d).1 = (y, slotFor x6 y) := by
    rw [← HY.out]; unfold seatFor; dsimp only; rw [if_pos hs1]
   rw [hsd] at hnx
   rw [hs1] at HN
   by_cases hs2 : slotFor x6 y = 0
   ·rw [hs2] at HT
    have hany : (seatsOf ((x0, x1, []), (x3, x4, x5, x6), (x7, x8, x9, x10), x11, []) (root, l)).any (fun s => decide (s.2 = 0)) = true := by
     rw [List.any_eq_true]
     refine ⟨seatFor ((x0, x1, []), (x3, x4, x5, x6), (x7, x8, x9, x10), x11, []) (l.getD k shSlot.d).1, ?_, ?_⟩
     ·unfold seatsOf
      exact List.mem_map.2 ⟨l.getD k shSlot.d, getD_in hlt, rfl⟩
     ·rw [hsd, hs2]; simp
    clear q1 hs1 hs2 hnx hsd
    have HC := hd_ (show beginCode ((x0, x1, []), (x3, x4, x5, x6), (x7, x8, x9, x10), x11, []) (root, l) s2 = 3 from by unfold beginCode; rw [if_neg (by rw [HOK.out]; simp), if_neg (by rw [HZK.out]; simp), if_pos (by exact hany)])
    have HOUT := hd_ (show beginOut ((x0, x1, []), (x3, x4, x5, x6), (x7, x8, x9, x10), x11, []) (root, l) s2 = zeroC by unfold beginOut; rw [if_neg (by rw [HC.out]; decide)])
    go_wp2_with fail
    refine HN.out.mono ?_; rintro e1 w9 ⟨rfl, hww⟩; obtain rfl := hww.symm
    go_wp2_with fail
    refine HT.out.mono ?_; rintro e1 w9 ⟨rfl, hww⟩; obtain rfl := hww.symm
    go_wp2_with (first | fail | (refine wpList_storeAll rfl 44 (.tmp 6) (.tmp 81) rfl (w.heap.size + 1 + 1) zz9 rfl rfl (HSr.out.get 0 rfl) (by kernel_rfl) rfl hONE.out ?_; intro wF hbF hoF hzF))
    refine bodyPost_ret (results_cell_tmpB (P := Tryz.prog) rfl _ _ (w.heap.size + 1 + 1) 44 zz9 (0, 0) _ rfl hbF Tryz.underlying44 rfl (by kernel_rfl)) rfl ⟨[.int .i64 0, .slice none 0 0, .slice none 0 0, .int .i64 0, .int .i64 0, .int .i64 0, .slice none 0 0, .int .i64 0, .int .i64 0, .int .i64 0, .slice none 0 0, .slice none 0 0, .slice none 0 0], by rw [show (beginR ((x0, x1, []), (x3, x4, x5, x6), (x7, x8, x9, x10), x11, []) (root, l) s2).2 = 3 from HC.out]; rfl, by rw [show (beginR ((x0, x1, []), (x3, x4, x5, x6), (x7, x8, x9, x10), x11, []) (root, l) s2).1 = zeroC from HOUT.out]; exact zero_R _ _ _, (HSr.out.1).trans (hoF.below1 (by omega) (HSr.out.1).size)⟩
   ·have HNX := hd_ (hnx hs2)
    have q2 : (slotFor x6 y == 0) = false := beq_eq_false_iff_ne.2 hs2
    clear q1 hs1 hnx
    generalize slotFor x6 y = sl at *
    replace hsd : Hid (seatFor ((x0, x1, []), (x3, x4, x5, x6), (x7, x8, x9, x10), x11, []) (l.getD k shSlot.d).1 = (y, sl)) := hd_ hsd
    go_wp2_with fail
    refine HN.out.mono ?_; rintro e1 w9 ⟨rfl, hww⟩; obtain rfl := hww.symm
    go_wp2_with fail
    refine HT.out.mono ?_; rintro e1 w9 ⟨rfl, hww⟩; obtain rfl := hww.symm
    have HSD := hsd; clear hsd
    have HLEN : Hid (((l.take k).map fun s => seatFor ((x0, x1, []), (x3, x4, x5, x6), (x7, x8, x9, x10), x11, []) s.1).length = k) := hd_ (by rw [List.length_map, List.length_take]; omega)
    have HTK := hd_ (show ((l.take k).map fun s => seatFor ((x0, x1, []), (x3, x4, x5, x6), (x7, x8, x9, x10), x11, []) s.1) ++ [(y, sl)] = (l.take (k + 1)).map fun s => seatFor ((x0, x1, []), (x3, x4, x5, x6), (x7, x8, x9, x10), x11, []) s.1 from by
     rw [List.take_succ_eq_append_getElem hlt, List.map_append, ← HSD.out, HX2.out]; rfl)
    go_wp2_with (first
     | fail
     | (at_builtin; refine wpList_grow (s := shSeat) rfl (.tmp 83) (.tmp 87) 40 rfl Tryz.underlying40 rfl (by decide) (by decide) infoSeat wr (w6.heap.size + 1) wr.heap.size wr.heap.size wr.heap.size A k cc ((l.take k).map fun s => seatFor ((x0, x1, []), (x3, x4, x5, x6), (x7, x8, x9, x10), x11, []) s.1) [.int .i64 y, .int .i64 (sl)] (y, sl) rfl HO.out ⟨[], shSeat_O.2 ⟨rfl, rfl⟩, List.nodup_nil, fun q hq => by cases hq⟩ (Nat.le_refl _) hbs (Nat.le_refl _) hbs rfl (by omega) ?_; intro A' c' w8 ho8 hb8 hs8 hk8; have hB8 := HBL.out.below hb8 (Nat.lt_succ_self _); have f8' := hB8.cell; have z8' := hB8.frozen))
    have hz9 : (w8.setCell ⟨w6.heap.size, 3, none⟩ (.slice A' (k + 1) c')).heap.size = w8.heap.size := by simp [World.setCell]
    have HN9 := hd_ (hB8.set_ 3 (.slice A' (k + 1) c'))
    rw [HTK.out] at ho8
    have HO9 := hd_ ((ho8.setCell (p := ⟨w6.heap.size, 3, none⟩) (by dsimp only; omega) (.slice A' (k + 1) c')).more (Nat.le_refl _) (Nat.le_of_eq hz9.symm))
    have HB9 := hd_ ((HBE.out.trans (hb8.mono (Nat.le_succ _) |>.trans (Below.refl _ _))).setCell (p := ⟨w6.heap.size, 3, none⟩) (Nat.le_refl _) (.slice A' (k + 1) c'))
    clear f8' z8' hB8 ho8 hb8 hk8
    go_roundw
    case rel => exact ⟨k + 1, A', c', by omega, by go_num, hd_ HNX.out, HB9.out, HN9.out, HO9.out⟩
    case measure => simp [intOf]; omega
  ·have q1 : (slotFor x11 y == 0) = false := beq_eq_false_iff_ne.2 hs1
   have hsd : seatFor ((x0, x1, []), (x3, x4, x5, x6), (x7, x8, x9, x10), x11, []) (l.getD k shSlot.d).1 = (y, slotFor x11 y) := by
    rw [← HY.out]; unfold seatFor; dsimp only; rw [if_neg hs1]
   rw [hsd] at hnx
   have HNX := hd_ (hnx hs1)
   clear hnx hs1
   generalize slotFor x11 y = sl at *
   replace hsd : Hid (seatFor ((x0, x1, []), (x3, x4, x5, x6), (x7, x8, x9, x10), x11, []) (l.getD k shSlot.d).1 = (y, sl)) := hd_ hsd
   go_wp2_with fail
   refine HN.out.mono ?_; rintro e1 w9 ⟨rfl, hww⟩; obtain rfl := hww.symm
   have HSD := hsd; clear hsd
   have HLEN : Hid (((l.take k).map fun s => seatFor ((x0, x1, []), (x3, x4, x5, x6), (x7, x8, x9, x10), x11, []) s.1).length = k) := hd_ (by rw [List.length_map, List.length_take]; omega)
   have HTK := hd_ (show ((l.take k).map fun s => seatFor ((x0, x1, []), (x3, x4, x5, x6), (x7, x8, x9, x10), x11, []) s.1) ++ [(y, sl)] = (l.take (k + 1)).map fun s => seatFor ((x0, x1, []), (x3, x4, x5, x6), (x7, x8, x9, x10), x11, []) s.1 from by
    rw [List.take_succ_eq_append_getElem hlt, List.map_append, ← HSD.out, HX2.out]; rfl)
   go_wp2_with (first
    | fail
    | (at_builtin; refine wpList_grow (s := shSeat) rfl (.tmp 83) (.tmp 87) 40 rfl Tryz.underlying40 rfl (by decide) (by decide) infoSeat wr (w6.heap.size + 1) wr.heap.size wr.heap.size wr.heap.size A k cc ((l.take k).map fun s => seatFor ((x0, x1, []), (x3, x4, x5, x6), (x7, x8, x9, x10), x11, []) s.1) [.int .i64 y, .int .i64 (sl)] (y, sl) rfl HO.out ⟨[], shSeat_O.2 ⟨rfl, rfl⟩, List.nodup_nil, fun q hq => by cases hq⟩ (Nat.le_refl _) hbs (Nat.le_refl _) hbs rfl (by omega) ?_; intro A' c' w8 ho8 hb8 hs8 hk8; have hB8 := HBL.out.below hb8 (Nat.lt_succ_self _); have f8' := hB8.cell; have z8' := hB8.frozen))
   have hz9 : (w8.setCell ⟨w6.heap.size, 3, none⟩ (.slice A' (k + 1) c')).heap.size = w8.heap.size := by simp [World.setCell]
   have HN9 := hd_ (hB8.set_ 3 (.slice A' (k + 1) c'))
   rw [HTK.out] at ho8
   have HO9 := hd_ ((ho8.setCell (p := ⟨w6.heap.size, 3, none⟩) (by dsimp only; omega) (.slice A' (k + 1) c')).more (Nat.le_refl _) (Nat.le_of_eq hz9.symm))
   have HB9 := hd_ ((HBE.out.trans (hb8.mono (Nat.le_succ _) |>.trans (Below.refl _ _))).setCell (p := ⟨w6.heap.size, 3, none⟩) (Nat.le_refl _) (.slice A' (k + 1) c'))
   clear f8' z8' hB8 ho8 hb8 hk8
   go_roundw
   case rel => exact ⟨k + 1, A', c', by omega, by go_num, hd_ HNX.out, HB9.out, HN9.out, HO9.out⟩
   case measure => simp [intOf]; omega
 ·obtain rfl : k = l.length := by omega
  have i1 : ¬ ((l.length : Nat) : Int) < (l.length : Int) := by omega
  have HSQ := hd_ (show (l.take l.length).map (fun s => seatFor ((x0, x1, []), (x3, x4, x5, x6), (x7, x8, x9, x10), x11, []) s.1) = seatsOf ((x0, x1, []), (x3, x4, x5, x6), (x7, x8, x9, x10), x11, []) (root, l) by rw [List.take_length]; rfl)
  rw [HSQ.out] at HO
  have HNZ := hd_ (show (seatsOf ((x0, x1, []), (x3, x4, x5, x6), (x7, x8, x9, x10), x11, []) (root, l)).any (fun s => decide (s.2 = 0)) = false from by
   rw [List.any_eq_false]
   intro s hs
   unfold seatsOf at hs
   obtain ⟨t, ht, rfl⟩ := List.mem_map.1 hs
   obtain ⟨j, hj, rfl⟩ := List.getElem_of_mem ht
   have := HNO.out j hj
   rw [List.getD_eq_getElem?_getD, List.getElem?_eq_getElem hj] at this
   simpa using this)
  by_cases hbig : 2000000000 < x3 + 1
  ·have i4 : (2000000000 : Int) < x3 + 1 := hbig
   have HC := hd_ (show beginCode ((x0, x1, []), (x3, x4, x5, x6), (x7, x8, x9, x10), x11, []) (root, l) s2 = 4 from by unfold beginCode; rw [if_neg (by rw [HOK.out]; simp), if_neg (by rw [HZK.out]; simp), if_neg (by rw [HNZ.out]; simp), if_pos hbig])
   have HOUT := hd_ (show beginOut ((x0, x1, []), (x3, x4, x5, x6), (x7, x8, x9, x10), x11, []) (root, l) s2 = zeroC by unfold beginOut; rw [if_neg (by rw [HC.out]; decide)])
   go_wp2_with (first | fail | (refine wpList_storeAll rfl 44 (.tmp 6) (.tmp 93) rfl (w.heap.size + 1 + 1) zz9 rfl rfl (HSr.out.get 0 rfl) (by kernel_rfl) rfl hONE.out ?_; intro wF hbF hoF hzF))
   refine bodyPost_ret (results_cell_tmpB (P := Tryz.prog) rfl _ _ (w.heap.size + 1 + 1) 44 zz9 (0, 0) _ rfl hbF Tryz.underlying44 rfl (by kernel_rfl)) rfl ⟨[.int .i64 0, .slice none 0 0, .slice none 0 0, .int .i64 0, .int .i64 0, .int .i64 0, .slice none 0 0, .int .i64 0, .int .i64 0, .int .i64 0, .slice none 0 0, .slice none 0 0, .slice none 0 0], by rw [show (beginR ((x0, x1, []), (x3, x4, x5, x6), (x7, x8, x9, x10), x11, []) (root, l) s2).2 = 4 from HC.out]; rfl, by rw [show (beginR ((x0, x1, []), (x3, x4, x5, x6), (x7, x8, x9, x10), x11, []) (root, l) s2).1 = zeroC from HOUT.out]; exact zero_R _ _ _, (HSr.out.1).trans (hoF.below1 (by omega) (HSr.out.1).size)⟩
  ·have i4 : ¬ (2000000000 : Int) < x3 + 1 := hbig
   have HTOK := hd_ (show topP (nextTop ((x0, x1, []), (x3, x4, x5, x6), (x7, x8, x9, x10), x11, []) (root, l) s2) = true from by
    have hc := HOK.out
    simp only [Bool.and_eq_true] at hc
    exact nextTop_ok hc.1.1 hc.1.2 hc.2 HNZ.out hbig)
   have HCK := hd_ (show cacheP ((x0, x1, []), (x3, x4, x5, x6), (x7, x8, x9, x10), x11, []) = true from by
    have hc := HOK.out
    simp only [Bool.and_eq_true] at hc
    exact hc.1.1)
   have HC := hd_ (show beginCode ((x0, x1, []), (x3, x4, x5, x6), (x7, x8, x9, x10), x11, []) (root, l) s2 = 0 from by unfold beginCode; rw [if_neg (by rw [HOK.out]; simp), if_neg (by rw [HZK.out]; simp), if_neg (by rw [HNZ.out]; simp), if_neg hbig])
   have HOUT := hd_ (show beginOut ((x0, x1, []), (x3, x4, x5, x6), (x7, x8, x9, x10), x11, []) (root, l) s2 = ((x0, x1, [((x3 + 1) % 2, mkB (topBytes (nextTop ((x0, x1, []), (x3, x4, x5, x6), (x7, x8, x9, x10), x11, []) (root, l) s2)))]), (x3, x4, x5, x6), nextTop ((x0, x1, []), (x3, x4, x5, x6), (x7, x8, x9, x10), x11, []) (root, l) s2, x11, []) by unfold beginOut; rw [if_pos HC.out]; rfl)
   go_wp2_with fail
   refine (l18Own_any ((x0, x1, []), (x3, x4, x5, x6), (x7, x8, x9, x10), x11, []) _ lo0 hi0 _ (shCache.R_below HR0.out HSr.out.1 hh0) (Nat.le_trans hh0 HSr.out.1.size) HF0.out).mono ?_
   rintro e1 w9 ⟨⟨us, rfl, hr⟩, hb⟩
   obtain ⟨B1, d1, B2, d2, B6, d6, B10, d10, B11, d11, B12, d12, rfl, _⟩ := shCache_R.1 hr
   have hs9 := hb.size
   have HS9 := hd_ (HSr.out.below hb)
   have HBL9 := hd_ (HBL.out.below hb (by have := HBL.out.lt; omega))
   have HO9 := hd_ (HO.out.below hb (Nat.le_refl _))
   have HRC := hd_ hr
   have hgl := HBL.out.lt
   clear hb hr f ft f8
   have hB10 := (Below.refl w9.heap.size w9).alloc (Nat.le_refl _) (.cells #[.int .i64 x0, .slice B1 x1.length d1, .slice B2 ([] : List TyPut).length d2, .int .i64 x3, .int .i64 x4, .int .i64 x5, .slice B6 x6.length d6, .int .i64 x7, .int .i64 x8, .int .i64 x9, .slice B10 x10.length d10, .slice B11 x11.length d11, .slice B12 ([] : List Int).length d12] 44)
   have hN10 := Blk.new w9 44 #[.int .i64 x0, .slice B1 x1.length d1, .slice B2 ([] : List TyPut).length d2, .int .i64 x3, .int .i64 x4, .int .i64 x5, .slice B6 x6.length d6, .int .i64 x7, .int .i64 x8, .int .i64 x9, .slice B10 x10.length d10, .slice B11 x11.length d11, .slice B12 ([] : List Int).length d12]
   have hz10 : (w9.alloc (.cells #[.int .i64 x0, .slice B1 x1.length d1, .slice B2 ([] : List TyPut).length d2, .int .i64 x3, .int .i64 x4, .int .i64 x5, .slice B6 x6.length d6, .int .i64 x7, .int .i64 x8, .int .i64 x9, .slice B10 x10.length d10, .slice B11 x11.length d11, .slice B12 ([] : List Int).length d12] 44)).heap.size = w9.heap.size + 1 := by simp
   have HZ10 := hd_ hz10
   have HB10 := hd_ hB10
   have HN10 := hd_ hN10
   clear hz10 hB10 hN10
   go_upto_region 19 with fail
   generalize (w9.alloc (.cells #[.int .i64 x0, .slice B1 x1.length d1, .slice B2 ([] : List TyPut).length d2, .int .i64 x3, .int .i64 x4, .int .i64 x5, .slice B6 x6.length d6, .int .i64 x7, .int .i64 x8, .int .i64 x9, .slice B10 x10.length d10, .slice B11 x11.length d11, .slice B12 ([] : List Int).length d12] 44)) = w10 at *
   have z12 := HN10.out.frozen
   have f12 := HN10.out.cell
   have f8 := (HBL9.out.below HB10.out (by omega)).cell
   go_upto_region 20 with fail
   have hset : ∀ (W : World) (j : Nat) (u : Value), Below w9.heap.size w9 W → Below w9.heap.size w9 (W.setCell ⟨w9.heap.size, j, none⟩ u) := fun W j u h => h.setCell (by dsimp only; omega) u
   have HB11 := hd_ (hset _ 10 (.slice A l.length cc) (hset _ 9 (.int .i64 s2) (hset _ 8 (.int .i64 root) (hset w10 7 (.int .i64 (x3 + 1)) HB10.out))))
   have HN11 : Hid (Blk ((((w10.setCell ⟨w9.heap.size, 7, none⟩ (.int .i64 (x3 + 1))).setCell ⟨w9.heap.size, 8, none⟩ (.int .i64 root)).setCell ⟨w9.heap.size, 9, none⟩ (.int .i64 s2)).setCell ⟨w9.heap.size, 10, none⟩ (.slice A l.length cc)) w9.heap.size 44 #[.int .i64 x0, .slice B1 x1.length d1, .slice B2 ([] : List TyPut).length d2, .int .i64 x3, .int .i64 x4, .int .i64 x5, .slice B6 x6.length d6, .int .i64 (x3 + 1), .int .i64 root, .int .i64 s2, .slice A l.length cc, .slice B11 x11.length d11, .slice B12 ([] : List Int).length d12]) := hd_ (by
    have := (((HN10.out.set_ 7 (.int .i64 (x3 + 1))).set_ 8 (.int .i64 root)).set_ 9 (.int .i64 s2)).set_ 10 (.slice A l.length cc)
    simpa only [List.setIfInBounds_toArray, List.set_cons_zero, List.set_cons_succ] using this)
   have hz11 : ((((w10.setCell ⟨w9.heap.size, 7, none⟩ (.int .i64 (x3 + 1))).setCell ⟨w9.heap.size, 8, none⟩ (.int .i64 root)).setCell ⟨w9.heap.size, 9, none⟩ (.int .i64 s2)).setCell ⟨w9.heap.size, 10, none⟩ (.slice A l.length cc)).heap.size = w9.heap.size + 1 := by have := HZ10.out; simp [World.setCell]; omega
   have HZ11 := hd_ hz11
   clear z12 f12 f8 hset hz11
   generalize ((((w10.setCell ⟨w9.heap.size, 7, none⟩ (.int .i64 (x3 + 1))).setCell ⟨w9.heap.size, 8, none⟩ (.int .i64 root)).setCell ⟨w9.heap.size, 9, none⟩ (.int .i64 s2)).setCell ⟨w9.heap.size, 10, none⟩ (.slice A l.length cc)) = w11 at *
   have HS11 := hd_ ((((((HS9.out.add wr.heap.size w9.heap.size _ (loc_sh _ _ _ _ _) (Nat.le_refl _) HRC.out).add (w6.heap.size + 1) wr.heap.size _ (loc_own _ _ _ _ _) hs9 (HO9.out)).add w6.heap.size (w6.heap.size + 1) _ (loc_blk _ _ _) (by omega) HBL9.out).below HB11.out).add w9.heap.size (w9.heap.size + 1) _ (loc_blk _ _ _) (Nat.le_of_eq HZ11.out.symm) HN11.out).drew)
   have HLS := hd_ (show (seatsOf ((x0, x1, []), (x3, x4, x5, x6), (x7, x8, x9, x10), x11, []) (root, l)).length = l.length by unfold seatsOf; rw [List.length_map])
   have HCF := hd_ (show diskP (x0, x1, []) = true ∧ x0 = 1700 ∧ 4 ≤ x1.length from by
    have hc := HCK.out
    unfold cacheP at hc
    simp only [Bool.and_eq_true, decide_eq_true_eq] at hc
    obtain ⟨⟨⟨⟨⟨⟨⟨⟨⟨h1, h2⟩, h3⟩, _⟩, _⟩, _⟩, _⟩, _⟩, _⟩, _⟩ := hc
    exact ⟨h1, h2, h3⟩)
   have HDK := hd_ HCF.out.1
   have HBY := hd_ (show ((mkB (topBytes (nextTop ((x0, x1, []), (x3, x4, x5, x6), (x7, x8, x9, x10), x11, []) (root, l) s2))).size : Int) = ((x0, x1, []) : TyDisk).1 from by
    rw [mkB_len, topBytes_len HTOK.out]; exact HCF.out.2.1.symm)
   have HAT := hd_ (show inB ((x3 + 1) % 2) 0 ((((x0, x1, []) : TyDisk).2.1.length : Int) - 1) = true from by
    have := HCF.out.2.2
    have h2 : (((x0, x1, []) : TyDisk).2.1.length : Int) = (x1.length : Int) := rfl
    rw [h2]; unfold inB
    simp only [Bool.and_eq_true, decide_eq_true_eq]
    omega)
   have hrem : Int.tmod (x3 + 1) 2 = (x3 + 1) % 2 := Int.tmod_eq_emod_of_nonneg (by omega)
   refine AnyT.region (fun _ => false) (fun W => (∀ i, W.cell? ⟨w9.heap.size, i, none⟩ = (#[.int .i64 x0, .slice B1 x1.length d1, .slice B2 ([] : List TyPut).length d2, .int .i64 x3, .int .i64 x4, .int .i64 x5, .slice B6 x6.length d6, .int .i64 (x3 + 1), .int .i64 root, .int .i64 s2, .slice A l.length cc, .slice B11 x11.length d11, .slice B12 ([] : List Int).length d12] : Array Value)[i]?) ∧ ∀ i, W.cell? ⟨w6.heap.size, i, none⟩ = (#[.int .i64 (x3 + 1), .int .i64 root, .int .i64 s2, .slice A l.length cc] : Array Value)[i]?) (by kernel_rfl) ⟨(HS11.out.get 0 rfl).cell, (HS11.out.get 1 rfl).cell⟩ (fun hHeld => ?_)
   have HSX := HS11
   replace HZ11 := hd_ (show w11.drew.heap.size = w9.heap.size + 1 from HZ11.out)
   generalize w11.drew = wD at *
   clear HS11
   (refine tA 0 99 ?_; simp only [pz])
   (refine tK 1 100 ?_; simp only [pz])
   (refine tA 2 101 ?_; simp only [pz])
   (refine tK 3 102 ?_; simp only [pz])
   (refine tA 4 103 ?_; simp only [pz])
   (refine tK 5 104 ?_; simp only [pz])
   refine AnyT.either (i := 6) (j := 11) (by kernel_rfl) rfl rfl (fun K hK => ?_) (fun K hK => ?_)
   ·go_simp
    refine (specPutTop_any (nextTop ((x0, x1, []), (x3, x4, x5, x6), (x7, x8, x9, x10), x11, []) (root, l) s2) [.int .i64 (x3 + 1), .int .i64 root, .int .i64 s2, .slice A l.length cc] (w6.heap.size + 1) wr.heap.size _ (shTop_R.2 ⟨A, cc, by rw [HLS.out], rowG_ofC (t := 88) (c := cc) (by rw [HLS.out]; exact (HSX.out.get 2 rfl).reads)⟩) (HSX.out.le 2 rfl) (by show (seatsOf ((x0, x1, []), (x3, x4, x5, x6), (x7, x8, x9, x10), x11, []) (root, l)).length ≤ _; rw [HLS.out]; omega)).mono ?_
    rintro e1 p1 ⟨rfl, hb⟩
    go_simp
    have hsz1 := hb.size
    have HSX := hd_ (HSX.out.below hb)
    refine hK.out _ _ ⟨(HSX.out.get 0 rfl).cell, (HSX.out.get 1 rfl).cell⟩ (fun hHeld => ?_)
    clear hK K hb
    (try simp only [pz])
    refine AnyT.either (i := 7) (j := 11) (by kernel_rfl) rfl rfl (fun K hK => ?_) (fun K hK => ?_)
    ·go_simp
     refine (specDiskPut_any (x0, x1, []) ((x3 + 1) % 2) (mkB (topBytes (nextTop ((x0, x1, []), (x3, x4, x5, x6), (x7, x8, x9, x10), x11, []) (root, l) s2))) _ wr.heap.size w9.heap.size _ (shCache_f0 (HSX.out.get 3 rfl)) (HSX.out.le 3 rfl) HDK.out HBY.out HAT.out (by show ([] : List TyPut).length < 400; decide)).mono ?_
     rintro e1 p2 ⟨⟨usx, rfl, hr⟩, hb⟩
     obtain ⟨E1, e1, E2, e2, rfl, _⟩ := shDisk_R.1 hr
     go_simp
     have hsz2 := hb.size
     have HSX := hd_ ((HSX.out.below hb).add p1.heap.size p2.heap.size (fun W => shDisk.R W p1.heap.size p2.heap.size [.int .i64 x0, .slice E1 x1.length e1, .slice E2 ([((x3 + 1) % 2, mkB (topBytes (nextTop ((x0, x1, []), (x3, x4, x5, x6), (x7, x8, x9, x10), x11, []) (root, l) s2)))] : List TyPut).length e2] (x0, x1, [((x3 + 1) % 2, mkB (topBytes (nextTop ((x0, x1, []), (x3, x4, x5, x6), (x7, x8, x9, x10), x11, []) (root, l) s2)))])) (loc_sh _ _ _ _ _) (Nat.le_refl _) hr)
     refine hK.out _ _ ⟨(HSX.out.get 1 rfl).cell, (HSX.out.get 2 rfl).cell⟩ (fun hHeld => ?_)
     clear hK K hb hr
     (try simp only [pz])
     (refine tA 8 98 ?_; simp only [pz])
     (refine tA 9 107 ?_; simp only [pz])
     (refine tA 10 108 ?_; simp only [pz])
     refine oNe 11 fun K hK => ?_
     go_simp
     have HSX := hd_ (HSX.out.box 39 #[.int .i64 0, .slice none 0 0, .slice none 0 0])
     have hsg3 : p2.heap.size + 1 = (p2.alloc (.cells #[.int .i64 0, .slice none 0 0, .slice none 0 0] 39)).heap.size := by simp
     have HSG3 := hd_ hsg3
     clear hsg3
     refine hK.out _ _ ⟨(HSX.out.get 2 rfl).cell, (HSX.out.get 3 rfl).cell⟩ (fun hHeld => ?_)
     clear hK K
     (try simp only [pz])
     generalize (p2.alloc (.cells #[.int .i64 0, .slice none 0 0, .slice none 0 0] 39)) = p3 at *
     have HONED := hd_ (show ∀ u ∈ (#[.int .i64 x0, .slice E1 x1.length e1, .slice E2 ([((x3 + 1) % 2, mkB (topBytes (nextTop ((x0, x1, []), (x3, x4, x5, x6), (x7, x8, x9, x10), x11, []) (root, l) s2)))] : List TyPut).length e2] : Array Value).toList, u.oneCell' = true from by
      intro u hu; simp only [List.mem_cons, List.not_mem_nil, or_false] at hu; rcases hu with rfl | rfl | rfl <;> rfl)
     refine AnyT.storeAll (i := 12) (by kernel_rfl) rfl (by kernel_rfl) 39 (.tmp 13) (.tmp 107) rfl (p2.heap.size) #[.int .i64 x0, .slice E1 x1.length e1, .slice E2 ([((x3 + 1) % 2, mkB (topBytes (nextTop ((x0, x1, []), (x3, x4, x5, x6), (x7, x8, x9, x10), x11, []) (root, l) s2)))] : List TyPut).length e2] rfl rfl (HSX.out.get 0 rfl) (by kernel_rfl) rfl HONED.out ?_
     intro wF hbF hoF hzF
     have hsD := HZ11.out
     have hsG := HSG3.out
     have HS1 := (show Stand w [(p1.heap.size, p2.heap.size, fun W => shDisk.R W p1.heap.size p2.heap.size [.int .i64 x0, .slice E1 x1.length e1, .slice E2 ([((x3 + 1) % 2, mkB (topBytes (nextTop ((x0, x1, []), (x3, x4, x5, x6), (x7, x8, x9, x10), x11, []) (root, l) s2)))] : List TyPut).length e2] (x0, x1, [((x3 + 1) % 2, mkB (topBytes (nextTop ((x0, x1, []), (x3, x4, x5, x6), (x7, x8, x9, x10), x11, []) (root, l) s2)))])), (w9.heap.size, w9.heap.size + 1, fun W => Blk W w9.heap.size 44 #[.int .i64 x0, .slice B1 x1.length d1, .slice B2 ([] : List TyPut).length d2, .int .i64 x3, .int .i64 x4, .int .i64 x5, .slice B6 x6.length d6, .int .i64 (x3 + 1), .int .i64 root, .int .i64 s2, .slice A l.length cc, .slice B11 x11.length d11, .slice B12 ([] : List Int).length d12]), (w6.heap.size, w6.heap.size + 1, fun W => Blk W w6.heap.size 42 #[.int .i64 (x3 + 1), .int .i64 root, .int .i64 s2, .slice A l.length cc]), (w6.heap.size + 1, wr.heap.size, fun W => Own (Sh.row 88 shSeat) W (w6.heap.size + 1) wr.heap.size [.slice A l.length cc] (seatsOf ((x0, x1, []), (x3, x4, x5, x6), (x7, x8, x9, x10), x11, []) (root, l))), (wr.heap.size, w9.heap.size, fun W => shCache.R W wr.heap.size w9.heap.size [.int .i64 x0, .slice B1 x1.length d1, .slice B2 ([] : List TyPut).length d2, .int .i64 x3, .int .i64 x4, .int .i64 x5, .slice B6 x6.length d6, .int .i64 x7, .int .i64 x8, .int .i64 x9, .slice B10 x10.length d10, .slice B11 x11.length d11, .slice B12 ([] : List Int).length d12] ((x0, x1, []), (x3, x4, x5, x6), (x7, x8, x9, x10), x11, [])), (w.heap.size + 1 + 1, w.heap.size + 1 + 1 + 1, fun W => Blk W (w.heap.size + 1 + 1) 44 zz9), (w.heap.size + 1, w.heap.size + 1 + 1, fun W => Blk W (w.heap.size + 1) 50 #[.int .i64 root, .slice AL l.length cl]), (w.heap.size, w.heap.size + 1, fun W => Blk W w.heap.size 44 #[.int .i64 x0, .slice A1 x1.length c1, .slice A2 ([] : List TyPut).length c2, .int .i64 x3, .int .i64 x4, .int .i64 x5, .slice A6 x6.length c6, .int .i64 x7, .int .i64 x8, .int .i64 x9, .slice A10 x10.length c10, .slice A11 x11.length c11, .slice A12 ([] : List Int).length c12])] p3 from HSX.out.only [1, 2, 3, 4, 5, 6, 7, 8]).within (hoF.within (lo := p2.heap.size) (hi := p2.heap.size + 1) (fun b hb => by have := List.mem_singleton.1 hb; omega)) (by omega) (fun f hf => by
      simp only [List.mem_cons, List.not_mem_nil, or_false] at hf
      rcases hf with rfl | rfl | rfl | rfl | rfl | rfl | rfl | rfl <;> dsimp only <;> omega)
     have HSX := hd_ (HS1.add (p2.heap.size) (p2.heap.size + 1) _ (loc_blk _ _ _) (by omega) hbF)
     refine ⟨⟨(HSX.out.get 2 rfl).cell, (HSX.out.get 3 rfl).cell⟩, fun hHeld => ?_⟩
     clear HS1 hsD hsG
     (refine tA 13 14 ?_; simp only [pz])
     refine AnyT.done (by kernel_rfl) ?_ _
     clear hHeld
     have f13 := (HSX.out.get 0 rfl).cell
     have f12 := (HSX.out.get 2 rfl).cell
     have z12 := (HSX.out.get 2 rfl).frozen
     go_upto_region 22 with fail
     have HO22 := hd_ (show Out [w9.heap.size] wF (((wF.setCell ⟨w9.heap.size, 0, none⟩ (.int .i64 x0)).setCell ⟨w9.heap.size, 1, none⟩ (.slice E1 x1.length e1)).setCell ⟨w9.heap.size, 2, none⟩ (.slice E2 ([((x3 + 1) % 2, mkB (topBytes (nextTop ((x0, x1, []), (x3, x4, x5, x6), (x7, x8, x9, x10), x11, []) (root, l) s2)))] : List TyPut).length e2)) from (((Out.refl _ _).setCell (p := ⟨w9.heap.size, 0, none⟩) (List.mem_cons_self ..) _).setCell (p := ⟨w9.heap.size, 1, none⟩) (List.mem_cons_self ..) _).setCell (p := ⟨w9.heap.size, 2, none⟩) (List.mem_cons_self ..) _)
     have HN22 : Hid (Blk (((wF.setCell ⟨w9.heap.size, 0, none⟩ (.int .i64 x0)).setCell ⟨w9.heap.size, 1, none⟩ (.slice E1 x1.length e1)).setCell ⟨w9.heap.size, 2, none⟩ (.slice E2 ([((x3 + 1) % 2, mkB (topBytes (nextTop ((x0, x1, []), (x3, x4, x5, x6), (x7, x8, x9, x10), x11, []) (root, l) s2)))] : List TyPut).length e2)) w9.heap.size 44 #[.int .i64 x0, .slice E1 x1.length e1, .slice E2 ([((x3 + 1) % 2, mkB (topBytes (nextTop ((x0, x1, []), (x3, x4, x5, x6), (x7, x8, x9, x10), x11, []) (root, l) s2)))] : List TyPut).length e2, .int .i64 x3, .int .i64 x4, .int .i64 x5, .slice B6 x6.length d6, .int .i64 (x3 + 1), .int .i64 root, .int .i64 s2, .slice A l.length cc, .slice B11 x11.length d11, .slice B12 ([] : List Int).length d12]) := hd_ (by
      have := (((HSX.out.get 2 rfl).set_ 0 (.int .i64 x0)).set_ 1 (.slice E1 x1.length e1)).set_ 2 (.slice E2 ([((x3 + 1) % 2, mkB (topBytes (nextTop ((x0, x1, []), (x3, x4, x5, x6), (x7, x8, x9, x10), x11, []) (root, l) s2)))] : List TyPut).length e2)
      simpa only [List.setIfInBounds_toArray, List.set_cons_zero, List.set_cons_succ] using this)
     clear f13 f12 z12
     generalize (((wF.setCell ⟨w9.heap.size, 0, none⟩ (.int .i64 x0)).setCell ⟨w9.heap.size, 1, none⟩ (.slice E1 x1.length e1)).setCell ⟨w9.heap.size, 2, none⟩ (.slice E2 ([((x3 + 1) % 2, mkB (topBytes (nextTop ((x0, x1, []), (x3, x4, x5, x6), (x7, x8, x9, x10), x11, []) (root, l) s2)))] : List TyPut).length e2)) = w22 at *
     have hsD := HZ11.out
     have hsG := HSG3.out
     have HS2 := (show Stand w [(p1.heap.size, p2.heap.size, fun W => shDisk.R W p1.heap.size p2.heap.size [.int .i64 x0, .slice E1 x1.length e1, .slice E2 ([((x3 + 1) % 2, mkB (topBytes (nextTop ((x0, x1, []), (x3, x4, x5, x6), (x7, x8, x9, x10), x11, []) (root, l) s2)))] : List TyPut).length e2] (x0, x1, [((x3 + 1) % 2, mkB (topBytes (nextTop ((x0, x1, []), (x3, x4, x5, x6), (x7, x8, x9, x10), x11, []) (root, l) s2)))])), (w6.heap.size, w6.heap.size + 1, fun W => Blk W w6.heap.size 42 #[.int .i64 (x3 + 1), .int .i64 root, .int .i64 s2, .slice A l.length cc]), (w6.heap.size + 1, wr.heap.size, fun W => Own (Sh.row 88 shSeat) W (w6.heap.size + 1) wr.heap.size [.slice A l.length cc] (seatsOf ((x0, x1, []), (x3, x4, x5, x6), (x7, x8, x9, x10), x11, []) (root, l))), (wr.heap.size, w9.heap.size, fun W => shCache.R W wr.heap.size w9.heap.size [.int .i64 x0, .slice B1 x1.length d1, .slice B2 ([] : List TyPut).length d2, .int .i64 x3, .int .i64 x4, .int .i64 x5, .slice B6 x6.length d6, .int .i64 x7, .int .i64 x8, .int .i64 x9, .slice B10 x10.length d10, .slice B11 x11.length d11, .slice B12 ([] : List Int).length d12] ((x0, x1, []), (x3, x4, x5, x6), (x7, x8, x9, x10), x11, [])), (w.heap.size + 1 + 1, w.heap.size + 1 + 1 + 1, fun W => Blk W (w.heap.size + 1 + 1) 44 zz9), (w.heap.size + 1, w.heap.size + 1 + 1, fun W => Blk W (w.heap.size + 1) 50 #[.int .i64 root, .slice AL l.length cl]), (w.heap.size, w.heap.size + 1, fun W => Blk W w.heap.size 44 #[.int .i64 x0, .slice A1 x1.length c1, .slice A2 ([] : List TyPut).length c2, .int .i64 x3, .int .i64 x4, .int .i64 x5, .slice A6 x6.length c6, .int .i64 x7, .int .i64 x8, .int .i64 x9, .slice A10 x10.length c10, .slice A11 x11.length c11, .slice A12 ([] : List Int).length c12])] wF from HSX.out.only [1, 3, 4, 5, 6, 7, 8]).within (HO22.out.within (lo := w9.heap.size) (hi := w9.heap.size + 1) (fun b hb => by have := List.mem_singleton.1 hb; omega)) (by omega) (fun f hf => by
      simp only [List.mem_cons, List.not_mem_nil, or_false] at hf
      rcases hf with rfl | rfl | rfl | rfl | rfl | rfl | rfl <;> dsimp only <;> omega)
     have HSY := hd_ HS2
     clear HS2 hsD hsG
     have f22 := HN22.out.cell
     have HONE3 := hd_ (show ∀ u ∈ (#[.int .i64 x0, .slice E1 x1.length e1, .slice E2 ([((x3 + 1) % 2, mkB (topBytes (nextTop ((x0, x1, []), (x3, x4, x5, x6), (x7, x8, x9, x10), x11, []) (root, l) s2)))] : List TyPut).length e2, .int .i64 x3, .int .i64 x4, .int .i64 x5, .slice B6 x6.length d6, .int .i64 (x3 + 1), .int .i64 root, .int .i64 s2, .slice A l.length cc, .slice B11 x11.length d11, .slice B12 ([] : List Int).length d12] : Array Value).toList, u.oneCell' = true from by
      intro u hu; simp only [List.mem_cons, List.not_mem_nil, or_false] at hu; rcases hu with rfl | rfl | rfl | rfl | rfl | rfl | rfl | rfl | rfl | rfl | rfl | rfl | rfl <;> rfl)
     go_wp2_with (first | fail | (refine wpList_storeAll rfl 44 (.tmp 6) (.tmp 111) rfl (w.heap.size + 1 + 1) #[.int .i64 x0, .slice E1 x1.length e1, .slice E2 ([((x3 + 1) % 2, mkB (topBytes (nextTop ((x0, x1, []), (x3, x4, x5, x6), (x7, x8, x9, x10), x11, []) (root, l) s2)))] : List TyPut).length e2, .int .i64 x3, .int .i64 x4, .int .i64 x5, .slice B6 x6.length d6, .int .i64 (x3 + 1), .int .i64 root, .int .i64 s2, .slice A l.length cc, .slice B11 x11.length d11, .slice B12 ([] : List Int).length d12] rfl rfl (HSY.out.get 4 rfl) (by kernel_rfl) rfl HONE3.out ?_; intro wZ hbZ hoZ hzZ))
     have hsD := HZ11.out
     have hsG := HSG3.out
     have HS3 := (show Stand w [(p1.heap.size, p2.heap.size, fun W => shDisk.R W p1.heap.size p2.heap.size [.int .i64 x0, .slice E1 x1.length e1, .slice E2 ([((x3 + 1) % 2, mkB (topBytes (nextTop ((x0, x1, []), (x3, x4, x5, x6), (x7, x8, x9, x10), x11, []) (root, l) s2)))] : List TyPut).length e2] (x0, x1, [((x3 + 1) % 2, mkB (topBytes (nextTop ((x0, x1, []), (x3, x4, x5, x6), (x7, x8, x9, x10), x11, []) (root, l) s2)))])), (w6.heap.size, w6.heap.size + 1, fun W => Blk W w6.heap.size 42 #[.int .i64 (x3 + 1), .int .i64 root, .int .i64 s2, .slice A l.length cc]), (w6.heap.size + 1, wr.heap.size, fun W => Own (Sh.row 88 shSeat) W (w6.heap.size + 1) wr.heap.size [.slice A l.length cc] (seatsOf ((x0, x1, []), (x3, x4, x5, x6), (x7, x8, x9, x10), x11, []) (root, l))), (wr.heap.size, w9.heap.size, fun W => shCache.R W wr.heap.size w9.heap.size [.int .i64 x0, .slice B1 x1.length d1, .slice B2 ([] : List TyPut).length d2, .int .i64 x3, .int .i64 x4, .int .i64 x5, .slice B6 x6.length d6, .int .i64 x7, .int .i64 x8, .int .i64 x9, .slice B10 x10.length d10, .slice B11 x11.length d11, .slice B12 ([] : List Int).length d12] ((x0, x1, []), (x3, x4, x5, x6), (x7, x8, x9, x10), x11, [])), (w.heap.size + 1, w.heap.size + 1 + 1, fun W => Blk W (w.heap.size + 1) 50 #[.int .i64 root, .slice AL l.length cl]), (w.heap.size, w.heap.size + 1, fun W => Blk W w.heap.size 44 #[.int .i64 x0, .slice A1 x1.length c1, .slice A2 ([] : List TyPut).length c2, .int .i64 x3, .int .i64 x4, .int .i64 x5, .slice A6 x6.length c6, .int .i64 x7, .int .i64 x8, .int .i64 x9, .slice A10 x10.length c10, .slice A11 x11.length c11, .slice A12 ([] : List Int).length c12])] w22 from HSY.out.only [0, 1, 2, 3, 5, 6]).within (hoZ.within (lo := w.heap.size + 1 + 1) (hi := w.heap.size + 1 + 1 + 1) (fun b hb => by have := List.mem_singleton.1 hb; omega)) (by omega) (fun f hf => by
      simp only [List.mem_cons, List.not_mem_nil, or_false] at hf
      rcases hf with rfl | rfl | rfl | rfl | rfl | rfl <;> dsimp only <;> omega)
     refine bodyPost_ret (results_cell_tmpB (P := Tryz.prog) rfl _ _ (w.heap.size + 1 + 1) 44 #[.int .i64 x0, .slice E1 x1.length e1, .slice E2 ([((x3 + 1) % 2, mkB (topBytes (nextTop ((x0, x1, []), (x3, x4, x5, x6), (x7, x8, x9, x10), x11, []) (root, l) s2)))] : List TyPut).length e2, .int .i64 x3, .int .i64 x4, .int .i64 x5, .slice B6 x6.length d6, .int .i64 (x3 + 1), .int .i64 root, .int .i64 s2, .slice A l.length cc, .slice B11 x11.length d11, .slice B12 ([] : List Int).length d12] (0, 0) _ rfl hbZ Tryz.underlying44 rfl (by kernel_rfl)) rfl ⟨[.int .i64 x0, .slice E1 x1.length e1, .slice E2 ([((x3 + 1) % 2, mkB (topBytes (nextTop ((x0, x1, []), (x3, x4, x5, x6), (x7, x8, x9, x10), x11, []) (root, l) s2)))] : List TyPut).length e2, .int .i64 x3, .int .i64 x4, .int .i64 x5, .slice B6 x6.length d6, .int .i64 (x3 + 1), .int .i64 root, .int .i64 s2, .slice A l.length cc, .slice B11 x11.length d11, .slice B12 ([] : List Int).length d12], by rw [show (beginR ((x0, x1, []), (x3, x4, x5, x6), (x7, x8, x9, x10), x11, []) (root, l) s2).2 = 0 from HC.out]; rfl, ?_, HS3.1⟩
     rw [show (beginR ((x0, x1, []), (x3, x4, x5, x6), (x7, x8, x9, x10), x11, []) (root, l) s2).1 = _ from HOUT.out]
     have e0 := HS3.get 0 rfl
     have eC := HS3.get 3 rfl
     have eS := (HS3.get 2 rfl).reads
     have l0 := HS3.le 0 rfl
     have lC := HS3.le 3 rfl
     have lS := HS3.le 2 rfl
     exact ⟨_, _, rfl, shDisk.R_more e0 (by omega) l0, _, _, rfl, shTop.R_more (shCache_f3 eC) (by omega) lC, _, _, rfl, shTop.R_more (shTop_R.2 ⟨A, cc, by rw [HLS.out], rowG_ofC (t := 88) (c := cc) (by rw [HLS.out]; exact eS)⟩) (by omega) lS, _, _, rfl, (Sh.row 88 shSeat).R_more (shCache_f11 eC) (by omega) lC, (Sh.row 2 shI).R_more (shCache_f12 eC) (by omega) lC⟩
    ·go_simp
     have HSX := hd_ (HSX.out.box 39 #[.int .i64 0, .slice none 0 0, .slice none 0 0])
     have hsg2 : p1.heap.size + 1 = (p1.alloc (.cells #[.int .i64 0, .slice none 0 0, .slice none 0 0] 39)).heap.size := by simp
     have HSG2 := hd_ hsg2
     clear hsg2
     refine hK.out _ _ ⟨(HSX.out.get 1 rfl).cell, (HSX.out.get 2 rfl).cell⟩ (fun hHeld => ?_)
     clear hK K
     (try simp only [pz])
     generalize (p1.alloc (.cells #[.int .i64 0, .slice none 0 0, .slice none 0 0] 39)) = p2 at *
     refine oNe 7 fun K hK => ?_
     go_simp
     refine (specDiskPut_any (x0, x1, []) ((x3 + 1) % 2) (mkB (topBytes (nextTop ((x0, x1, []), (x3, x4, x5, x6), (x7, x8, x9, x10), x11, []) (root, l) s2))) _ wr.heap.size w9.heap.size _ (shCache_f0 (HSX.out.get 4 rfl)) (HSX.out.le 4 rfl) HDK.out HBY.out HAT.out (by show ([] : List TyPut).length < 400; decide)).mono ?_
     rintro e1 p3 ⟨⟨usx, rfl, hr⟩, hb⟩
     obtain ⟨E1, e1, E2, e2, rfl, _⟩ := shDisk_R.1 hr
     go_simp
     have hsz3 := hb.size
     have HSX := hd_ ((HSX.out.below hb).add p2.heap.size p3.heap.size (fun W => shDisk.R W p2.heap.size p3.heap.size [.int .i64 x0, .slice E1 x1.length e1, .slice E2 ([((x3 + 1) % 2, mkB (topBytes (nextTop ((x0, x1, []), (x3, x4, x5, x6), (x7, x8, x9, x10), x11, []) (root, l) s2)))] : List TyPut).length e2] (x0, x1, [((x3 + 1) % 2, mkB (topBytes (nextTop ((x0, x1, []), (x3, x4, x5, x6), (x7, x8, x9, x10), x11, []) (root, l) s2)))])) (loc_sh _ _ _ _ _) (Nat.le_refl _) hr)
     refine hK.out _ _ ⟨(HSX.out.get 2 rfl).cell, (HSX.out.get 3 rfl).cell⟩ (fun hHeld => ?_)
     clear hK K hb hr
     (try simp only [pz])
     (refine tA 8 98 ?_; simp only [pz])
     (refine tA 9 107 ?_; simp only [pz])
     (refine tA 10 108 ?_; simp only [pz])
     have HONED := hd_ (show ∀ u ∈ (#[.int .i64 x0, .slice E1 x1.length e1, .slice E2 ([((x3 + 1) % 2, mkB (topBytes (nextTop ((x0, x1, []), (x3, x4, x5, x6), (x7, x8, x9, x10), x11, []) (root, l) s2)))] : List TyPut).length e2] : Array Value).toList, u.oneCell' = true from by
      intro u hu; simp only [List.mem_cons, List.not_mem_nil, or_false] at hu; rcases hu with rfl | rfl | rfl <;> rfl)
     refine AnyT.storeAll (i := 12) (by kernel_rfl) rfl (by kernel_rfl) 39 (.tmp 13) (.tmp 107) rfl (p1.heap.size) #[.int .i64 x0, .slice E1 x1.length e1, .slice E2 ([((x3 + 1) % 2, mkB (topBytes (nextTop ((x0, x1, []), (x3, x4, x5, x6), (x7, x8, x9, x10), x11, []) (root, l) s2)))] : List TyPut).length e2] rfl rfl (HSX.out.get 1 rfl) (by kernel_rfl) rfl HONED.out ?_
     intro wF hbF hoF hzF
     have hsD := HZ11.out
     have hsG := HSG2.out
     have HS1 := (show Stand w [(p2.heap.size, p3.heap.size, fun W => shDisk.R W p2.heap.size p3.heap.size [.int .i64 x0, .slice E1 x1.length e1, .slice E2 ([((x3 + 1) % 2, mkB (topBytes (nextTop ((x0, x1, []), (x3, x4, x5, x6), (x7, x8, x9, x10), x11, []) (root, l) s2)))] : List TyPut).length e2] (x0, x1, [((x3 + 1) % 2, mkB (topBytes (nextTop ((x0, x1, []), (x3, x4, x5, x6), (x7, x8, x9, x10), x11, []) (root, l) s2)))])), (w9.heap.size, w9.heap.size + 1, fun W => Blk W w9.heap.size 44 #[.int .i64 x0, .slice B1 x1.length d1, .slice B2 ([] : List TyPut).length d2, .int .i64 x3, .int .i64 x4, .int .i64 x5, .slice B6 x6.length d6, .int .i64 (x3 + 1), .int .i64 root, .int .i64 s2, .slice A l.length cc, .slice B11 x11.length d11, .slice B12 ([] : List Int).length d12]), (w6.heap.size, w6.heap.size + 1, fun W => Blk W w6.heap.size 42 #[.int .i64 (x3 + 1), .int .i64 root, .int .i64 s2, .slice A l.length cc]), (w6.heap.size + 1, wr.heap.size, fun W => Own (Sh.row 88 shSeat) W (w6.heap.size + 1) wr.heap.size [.slice A l.length cc] (seatsOf ((x0, x1, []), (x3, x4, x5, x6), (x7, x8, x9, x10), x11, []) (root, l))), (wr.heap.size, w9.heap.size, fun W => shCache.R W wr.heap.size w9.heap.size [.int .i64 x0, .slice B1 x1.length d1, .slice B2 ([] : List TyPut).length d2, .int .i64 x3, .int .i64 x4, .int .i64 x5, .slice B6 x6.length d6, .int .i64 x7, .int .i64 x8, .int .i64 x9, .slice B10 x10.length d10, .slice B11 x11.length d11, .slice B12 ([] : List Int).length d12] ((x0, x1, []), (x3, x4, x5, x6), (x7, x8, x9, x10), x11, [])), (w.heap.size + 1 + 1, w.heap.size + 1 + 1 + 1, fun W => Blk W (w.heap.size + 1 + 1) 44 zz9), (w.heap.size + 1, w.heap.size + 1 + 1, fun W => Blk W (w.heap.size + 1) 50 #[.int .i64 root, .slice AL l.length cl]), (w.heap.size, w.heap.size + 1, fun W => Blk W w.heap.size 44 #[.int .i64 x0, .slice A1 x1.length c1, .slice A2 ([] : List TyPut).length c2, .int .i64 x3, .int .i64 x4, .int .i64 x5, .slice A6 x6.length c6, .int .i64 x7, .int .i64 x8, .int .i64 x9, .slice A10 x10.length c10, .slice A11 x11.length c11, .slice A12 ([] : List Int).length c12])] p3 from HSX.out.only [0, 2, 3, 4, 5, 6, 7, 8]).within (hoF.within (lo := p1.heap.size) (hi := p1.heap.size + 1) (fun b hb => by have := List.mem_singleton.1 hb; omega)) (by omega) (fun f hf => by
      simp only [List.mem_cons, List.not_mem_nil, or_false] at hf
      rcases hf with rfl | rfl | rfl | rfl | rfl | rfl | rfl | rfl <;> dsimp only <;> omega)
     have HSX := hd_ (HS1.add (p1.heap.size) (p1.heap.size + 1) _ (loc_blk _ _ _) (by omega) hbF)
     refine ⟨⟨(HSX.out.get 2 rfl).cell, (HSX.out.get 3 rfl).cell⟩, fun hHeld => ?_⟩
     clear HS1 hsD hsG
     (refine tA 13 14 ?_; simp only [pz])
     refine AnyT.done (by kernel_rfl) ?_ _
     clear hHeld
     have f13 := (HSX.out.get 0 rfl).cell
     have f12 := (HSX.out.get 2 rfl).cell
     have z12 := (HSX.out.get 2 rfl).frozen
     go_upto_region 22 with fail
     have HO22 := hd_ (show Out [w9.heap.size] wF (((wF.setCell ⟨w9.heap.size, 0, none⟩ (.int .i64 x0)).setCell ⟨w9.heap.size, 1, none⟩ (.slice E1 x1.length e1)).setCell ⟨w9.heap.size, 2, none⟩ (.slice E2 ([((x3 + 1) % 2, mkB (topBytes (nextTop ((x0, x1, []), (x3, x4, x5, x6), (x7, x8, x9, x10), x11, []) (root, l) s2)))] : List TyPut).length e2)) from (((Out.refl _ _).setCell (p := ⟨w9.heap.size, 0, none⟩) (List.mem_cons_self ..) _).setCell (p := ⟨w9.heap.size, 1, none⟩) (List.mem_cons_self ..) _).setCell (p := ⟨w9.heap.size, 2, none⟩) (List.mem_cons_self ..) _)
     have HN22 : Hid (Blk (((wF.setCell ⟨w9.heap.size, 0, none⟩ (.int .i64 x0)).setCell ⟨w9.heap.size, 1, none⟩ (.slice E1 x1.length e1)).setCell ⟨w9.heap.size, 2, none⟩ (.slice E2 ([((x3 + 1) % 2, mkB (topBytes (nextTop ((x0, x1, []), (x3, x4, x5, x6), (x7, x8, x9, x10), x11, []) (root, l) s2)))] : List TyPut).length e2)) w9.heap.size 44 #[.int .i64 x0, .slice E1 x1.length e1, .slice E2 ([((x3 + 1) % 2, mkB (topBytes (nextTop ((x0, x1, []), (x3, x4, x5, x6), (x7, x8, x9, x10), x11, []) (root, l) s2)))] : List TyPut).length e2, .int .i64 x3, .int .i64 x4, .int .i64 x5, .slice B6 x6.length d6, .int .i64 (x3 + 1), .int .i64 root, .int .i64 s2, .slice A l.length cc, .slice B11 x11.length d11, .slice B12 ([] : List Int).length d12]) := hd_ (by
      have := (((HSX.out.get 2 rfl).set_ 0 (.int .i64 x0)).set_ 1 (.slice E1 x1.length e1)).set_ 2 (.slice E2 ([((x3 + 1) % 2, mkB (topBytes (nextTop ((x0, x1, []), (x3, x4, x5, x6), (x7, x8, x9, x10), x11, []) (root, l) s2)))] : List TyPut).length e2)
      simpa only [List.setIfInBounds_toArray, List.set_cons_zero, List.set_cons_succ] using this)
     clear f13 f12 z12
     generalize (((wF.setCell ⟨w9.heap.size, 0, none⟩ (.int .i64 x0)).setCell ⟨w9.heap.size, 1, none⟩ (.slice E1 x1.length e1)).setCell ⟨w9.heap.size, 2, none⟩ (.slice E2 ([((x3 + 1) % 2, mkB (topBytes (nextTop ((x0, x1, []), (x3, x4, x5, x6), (x7, x8, x9, x10), x11, []) (root, l) s2)))] : List TyPut).length e2)) = w22 at *
     have hsD := HZ11.out
     have hsG := HSG2.out
     have HS2 := (show Stand w [(p2.heap.size, p3.heap.size, fun W => shDisk.R W p2.heap.size p3.heap.size [.int .i64 x0, .slice E1 x1.length e1, .slice E2 ([((x3 + 1) % 2, mkB (topBytes (nextTop ((x0, x1, []), (x3, x4, x5, x6), (x7, x8, x9, x10), x11, []) (root, l) s2)))] : List TyPut).length e2] (x0, x1, [((x3 + 1) % 2, mkB (topBytes (nextTop ((x0, x1, []), (x3, x4, x5, x6), (x7, x8, x9, x10), x11, []) (root, l) s2)))])), (w6.heap.size, w6.heap.size + 1, fun W => Blk W w6.heap.size 42 #[.int .i64 (x3 + 1), .int .i64 root, .int .i64 s2, .slice A l.length cc]), (w6.heap.size + 1, wr.heap.size, fun W => Own (Sh.row 88 shSeat) W (w6.heap.size + 1) wr.heap.size [.slice A l.length cc] (seatsOf ((x0, x1, []), (x3, x4, x5, x6), (x7, x8, x9, x10), x11, []) (root, l))), (wr.heap.size, w9.heap.size, fun W => shCache.R W wr.heap.size w9.heap.size [.int .i64 x0, .slice B1 x1.length d1, .slice B2 ([] : List TyPut).length d2, .int .i64 x3, .int .i64 x4, .int .i64 x5, .slice B6 x6.length d6, .int .i64 x7, .int .i64 x8, .int .i64 x9, .slice B10 x10.length d10, .slice B11 x11.length d11, .slice B12 ([] : List Int).length d12] ((x0, x1, []), (x3, x4, x5, x6), (x7, x8, x9, x10), x11, [])), (w.heap.size + 1 + 1, w.heap.size + 1 + 1 + 1, fun W => Blk W (w.heap.size + 1 + 1) 44 zz9), (w.heap.size + 1, w.heap.size + 1 + 1, fun W => Blk W (w.heap.size + 1) 50 #[.int .i64 root, .slice AL l.length cl]), (w.heap.size, w.heap.size + 1, fun W => Blk W w.heap.size 44 #[.int .i64 x0, .slice A1 x1.length c1, .slice A2 ([] : List TyPut).length c2, .int .i64 x3, .int .i64 x4, .int .i64 x5, .slice A6 x6.length c6, .int .i64 x7, .int .i64 x8, .int .i64 x9, .slice A10 x10.length c10, .slice A11 x11.length c11, .slice A12 ([] : List Int).length c12])] wF from HSX.out.only [1, 3, 4, 5, 6, 7, 8]).within (HO22.out.within (lo := w9.heap.size) (hi := w9.heap.size + 1) (fun b hb => by have := List.mem_singleton.1 hb; omega)) (by omega) (fun f hf => by
      simp only [List.mem_cons, List.not_mem_nil, or_false] at hf
      rcases hf with rfl | rfl | rfl | rfl | rfl | rfl | rfl <;> dsimp only <;> omega)
     have HSY := hd_ HS2
     clear HS2 hsD hsG
     have f22 := HN22.out.cell
     have HONE3 := hd_ (show ∀ u ∈ (#[.int .i64 x0, .slice E1 x1.length e1, .slice E2 ([((x3 + 1) % 2, mkB (topBytes (nextTop ((x0, x1, []), (x3, x4, x5, x6), (x7, x8, x9, x10), x11, []) (root, l) s2)))] : List TyPut).length e2, .int .i64 x3, .int .i64 x4, .int .i64 x5, .slice B6 x6.length d6, .int .i64 (x3 + 1), .int .i64 root, .int .i64 s2, .slice A l.length cc, .slice B11 x11.length d11, .slice B12 ([] : List Int).length d12] : Array Value).toList, u.oneCell' = true from by
      intro u hu; simp only [List.mem_cons, List.not_mem_nil, or_false] at hu; rcases hu with rfl | rfl | rfl | rfl | rfl | rfl | rfl | rfl | rfl | rfl | rfl | rfl | rfl <;> rfl)
     go_wp2_with (first | fail | (refine wpList_storeAll rfl 44 (.tmp 6) (.tmp 111) rfl (w.heap.size + 1 + 1) #[.int .i64 x0, .slice E1 x1.length e1, .slice E2 ([((x3 + 1) % 2, mkB (topBytes (nextTop ((x0, x1, []), (x3, x4, x5, x6), (x7, x8, x9, x10), x11, []) (root, l) s2)))] : List TyPut).length e2, .int .i64 x3, .int .i64 x4, .int .i64 x5, .slice B6 x6.length d6, .int .i64 (x3 + 1), .int .i64 root, .int .i64 s2, .slice A l.length cc, .slice B11 x11.length d11, .slice B12 ([] : List Int).length d12] rfl rfl (HSY.out.get 4 rfl) (by kernel_rfl) rfl HONE3.out ?_; intro wZ hbZ hoZ hzZ))
     have hsD := HZ11.out
     have hsG := HSG2.out
     have HS3 := (show Stand w [(p2.heap.size, p3.heap.size, fun W => shDisk.R W p2.heap.size p3.heap.size [.int .i64 x0, .slice E1 x1.length e1, .slice E2 ([((x3 + 1) % 2, mkB (topBytes (nextTop ((x0, x1, []), (x3, x4, x5, x6), (x7, x8, x9, x10), x11, []) (root, l) s2)))] : List TyPut).length e2] (x0, x1, [((x3 + 1) % 2, mkB (topBytes (nextTop ((x0, x1, []), (x3, x4, x5, x6), (x7, x8, x9, x10), x11, []) (root, l) s2)))])), (w6.heap.size, w6.heap.size + 1, fun W => Blk W w6.heap.size 42 #[.int .i64 (x3 + 1), .int .i64 root, .int .i64 s2, .slice A l.length cc]), (w6.heap.size + 1, wr.heap.size, fun W => Own (Sh.row 88 shSeat) W (w6.heap.size + 1) wr.heap.size [.slice A l.length cc] (seatsOf ((x0, x1, []), (x3, x4, x5, x6), (x7, x8, x9, x10), x11, []) (root, l))), (wr.heap.size, w9.heap.size, fun W => shCache.R W wr.heap.size w9.heap.size [.int .i64 x0, .slice B1 x1.length d1, .slice B2 ([] : List TyPut).length d2, .int .i64 x3, .int .i64 x4, .int .i64 x5, .slice B6 x6.length d6, .int .i64 x7, .int .i64 x8, .int .i64 x9, .slice B10 x10.length d10, .slice B11 x11.length d11, .slice B12 ([] : List Int).length d12] ((x0, x1, []), (x3, x4, x5, x6), (x7, x8, x9, x10), x11, [])), (w.heap.size + 1, w.heap.size + 1 + 1, fun W => Blk W (w.heap.size + 1) 50 #[.int .i64 root, .slice AL l.length cl]), (w.heap.size, w.heap.size + 1, fun W => Blk W w.heap.size 44 #[.int .i64 x0, .slice A1 x1.length c1, .slice A2 ([] : List TyPut).length c2, .int .i64 x3, .int .i64 x4, .int .i64 x5, .slice A6 x6.length c6, .int .i64 x7, .int .i64 x8, .int .i64 x9, .slice A10 x10.length c10, .slice A11 x11.length c11, .slice A12 ([] : List Int).length c12])] w22 from HSY.out.only [0, 1, 2, 3, 5, 6]).within (hoZ.within (lo := w.heap.size + 1 + 1) (hi := w.heap.size + 1 + 1 + 1) (fun b hb => by have := List.mem_singleton.1 hb; omega)) (by omega) (fun f hf => by
      simp only [List.mem_cons, List.not_mem_nil, or_false] at hf
      rcases hf with rfl | rfl | rfl | rfl | rfl | rfl <;> dsimp only <;> omega)
     refine bodyPost_ret (results_cell_tmpB (P := Tryz.prog) rfl _ _ (w.heap.size + 1 + 1) 44 #[.int .i64 x0, .slice E1 x1.length e1, .slice E2 ([((x3 + 1) % 2, mkB (topBytes (nextTop ((x0, x1, []), (x3, x4, x5, x6), (x7, x8, x9, x10), x11, []) (root, l) s2)))] : List TyPut).length e2, .int .i64 x3, .int .i64 x4, .int .i64 x5, .slice B6 x6.length d6, .int .i64 (x3 + 1), .int .i64 root, .int .i64 s2, .slice A l.length cc, .slice B11 x11.length d11, .slice B12 ([] : List Int).length d12] (0, 0) _ rfl hbZ Tryz.underlying44 rfl (by kernel_rfl)) rfl ⟨[.int .i64 x0, .slice E1 x1.length e1, .slice E2 ([((x3 + 1) % 2, mkB (topBytes (nextTop ((x0, x1, []), (x3, x4, x5, x6), (x7, x8, x9, x10), x11, []) (root, l) s2)))] : List TyPut).length e2, .int .i64 x3, .int .i64 x4, .int .i64 x5, .slice B6 x6.length d6, .int .i64 (x3 + 1), .int .i64 root, .int .i64 s2, .slice A l.length cc, .slice B11 x11.length d11, .slice B12 ([] : List Int).length d12], by rw [show (beginR ((x0, x1, []), (x3, x4, x5, x6), (x7, x8, x9, x10), x11, []) (root, l) s2).2 = 0 from HC.out]; rfl, ?_, HS3.1⟩
     rw [show (beginR ((x0, x1, []), (x3, x4, x5, x6), (x7, x8, x9, x10), x11, []) (root, l) s2).1 = _ from HOUT.out]
     have e0 := HS3.get 0 rfl
     have eC := HS3.get 3 rfl
     have eS := (HS3.get 2 rfl).reads
     have l0 := HS3.le 0 rfl
     have lC := HS3.le 3 rfl
     have lS := HS3.le 2 rfl
     exact ⟨_, _, rfl, shDisk.R_more e0 (by omega) l0, _, _, rfl, shTop.R_more (shCache_f3 eC) (by omega) lC, _, _, rfl, shTop.R_more (shTop_R.2 ⟨A, cc, by rw [HLS.out], rowG_ofC (t := 88) (c := cc) (by rw [HLS.out]; exact eS)⟩) (by omega) lS, _, _, rfl, (Sh.row 88 shSeat).R_more (shCache_f11 eC) (by omega) lC, (Sh.row 2 shI).R_more (shCache_f12 eC) (by omega) lC⟩
   ·go_simp
    have HSX := hd_ (HSX.out.box 39 #[.int .i64 0, .slice none 0 0, .slice none 0 0])
    have hsg1 : wD.heap.size + 1 = (wD.alloc (.cells #[.int .i64 0, .slice none 0 0, .slice none 0 0] 39)).heap.size := by simp
    have HSG1 := hd_ hsg1
    clear hsg1
    refine hK.out _ _ ⟨(HSX.out.get 1 rfl).cell, (HSX.out.get 2 rfl).cell⟩ (fun hHeld => ?_)
    clear hK K
    (try simp only [pz])
    generalize (wD.alloc (.cells #[.int .i64 0, .slice none 0 0, .slice none 0 0] 39)) = p1 at *
    refine oNe 6 fun K hK => ?_
    go_simp
    refine (specPutTop_any (nextTop ((x0, x1, []), (x3, x4, x5, x6), (x7, x8, x9, x10), x11, []) (root, l) s2) [.int .i64 (x3 + 1), .int .i64 root, .int .i64 s2, .slice A l.length cc] (w6.heap.size + 1) wr.heap.size _ (shTop_R.2 ⟨A, cc, by rw [HLS.out], rowG_ofC (t := 88) (c := cc) (by rw [HLS.out]; exact (HSX.out.get 3 rfl).reads)⟩) (HSX.out.le 3 rfl) (by show (seatsOf ((x0, x1, []), (x3, x4, x5, x6), (x7, x8, x9, x10), x11, []) (root, l)).length ≤ _; rw [HLS.out]; omega)).mono ?_
    rintro e1 p2 ⟨rfl, hb⟩
    go_simp
    have hsz2 := hb.size
    have HSX := hd_ (HSX.out.below hb)
    refine hK.out _ _ ⟨(HSX.out.get 1 rfl).cell, (HSX.out.get 2 rfl).cell⟩ (fun hHeld => ?_)
    clear hK K hb
    (try simp only [pz])
    refine oNe 7 fun K hK => ?_
    go_simp
    refine (specDiskPut_any (x0, x1, []) ((x3 + 1) % 2) (mkB (topBytes (nextTop ((x0, x1, []), (x3, x4, x5, x6), (x7, x8, x9, x10), x11, []) (root, l) s2))) _ wr.heap.size w9.heap.size _ (shCache_f0 (HSX.out.get 4 rfl)) (HSX.out.le 4 rfl) HDK.out HBY.out HAT.out (by show ([] : List TyPut).length < 400; decide)).mono ?_
    rintro e1 p3 ⟨⟨usx, rfl, hr⟩, hb⟩
    obtain ⟨E1, e1, E2, e2, rfl, _⟩ := shDisk_R.1 hr
    go_simp
    have hsz3 := hb.size
    have HSX := hd_ ((HSX.out.below hb).add p2.heap.size p3.heap.size (fun W => shDisk.R W p2.heap.size p3.heap.size [.int .i64 x0, .slice E1 x1.length e1, .slice E2 ([((x3 + 1) % 2, mkB (topBytes (nextTop ((x0, x1, []), (x3, x4, x5, x6), (x7, x8, x9, x10), x11, []) (root, l) s2)))] : List TyPut).length e2] (x0, x1, [((x3 + 1) % 2, mkB (topBytes (nextTop ((x0, x1, []), (x3, x4, x5, x6), (x7, x8, x9, x10), x11, []) (root, l) s2)))])) (loc_sh _ _ _ _ _) (Nat.le_refl _) hr)
    refine hK.out _ _ ⟨(HSX.out.get 2 rfl).cell, (HSX.out.get 3 rfl).cell⟩ (fun hHeld => ?_)
    clear hK K hb hr
    (try simp only [pz])
    (refine tA 8 98 ?_; simp only [pz])
    (refine tA 9 107 ?_; simp only [pz])
    (refine tA 10 108 ?_; simp only [pz])
    have HONED := hd_ (show ∀ u ∈ (#[.int .i64 x0, .slice E1 x1.length e1, .slice E2 ([((x3 + 1) % 2, mkB (topBytes (nextTop ((x0, x1, []), (x3, x4, x5, x6), (x7, x8, x9, x10), x11, []) (root, l) s2)))] : List TyPut).length e2] : Array Value).toList, u.oneCell' = true from by
     intro u hu; simp only [List.mem_cons, List.not_mem_nil, or_false] at hu; rcases hu with rfl | rfl | rfl <;> rfl)
    refine AnyT.storeAll (i := 12) (by kernel_rfl) rfl (by kernel_rfl) 39 (.tmp 13) (.tmp 107) rfl (wD.heap.size) #[.int .i64 x0, .slice E1 x1.length e1, .slice E2 ([((x3 + 1) % 2, mkB (topBytes (nextTop ((x0, x1, []), (x3, x4, x5, x6), (x7, x8, x9, x10), x11, []) (root, l) s2)))] : List TyPut).length e2] rfl rfl (HSX.out.get 1 rfl) (by kernel_rfl) rfl HONED.out ?_
    intro wF hbF hoF hzF
    have hsD := HZ11.out
    have hsG := HSG1.out
    have HS1 := (show Stand w [(p2.heap.size, p3.heap.size, fun W => shDisk.R W p2.heap.size p3.heap.size [.int .i64 x0, .slice E1 x1.length e1, .slice E2 ([((x3 + 1) % 2, mkB (topBytes (nextTop ((x0, x1, []), (x3, x4, x5, x6), (x7, x8, x9, x10), x11, []) (root, l) s2)))] : List TyPut).length e2] (x0, x1, [((x3 + 1) % 2, mkB (topBytes (nextTop ((x0, x1, []), (x3, x4, x5, x6), (x7, x8, x9, x10), x11, []) (root, l) s2)))])), (w9.heap.size, w9.heap.size + 1, fun W => Blk W w9.heap.size 44 #[.int .i64 x0, .slice B1 x1.length d1, .slice B2 ([] : List TyPut).length d2, .int .i64 x3, .int .i64 x4, .int .i64 x5, .slice B6 x6.length d6, .int .i64 (x3 + 1), .int .i64 root, .int .i64 s2, .slice A l.length cc, .slice B11 x11.length d11, .slice B12 ([] : List Int).length d12]), (w6.heap.size, w6.heap.size + 1, fun W => Blk W w6.heap.size 42 #[.int .i64 (x3 + 1), .int .i64 root, .int .i64 s2, .slice A l.length cc]), (w6.heap.size + 1, wr.heap.size, fun W => Own (Sh.row 88 shSeat) W (w6.heap.size + 1) wr.heap.size [.slice A l.length cc] (seatsOf ((x0, x1, []), (x3, x4, x5, x6), (x7, x8, x9, x10), x11, []) (root, l))), (wr.heap.size, w9.heap.size, fun W => shCache.R W wr.heap.size w9.heap.size [.int .i64 x0, .slice B1 x1.length d1, .slice B2 ([] : List TyPut).length d2, .int .i64 x3, .int .i64 x4, .int .i64 x5, .slice B6 x6.length d6, .int .i64 x7, .int .i64 x8, .int .i64 x9, .slice B10 x10.length d10, .slice B11 x11.length d11, .slice B12 ([] : List Int).length d12] ((x0, x1, []), (x3, x4, x5, x6), (x7, x8, x9, x10), x11, [])), (w.heap.size + 1 + 1, w.heap.size + 1 + 1 + 1, fun W => Blk W (w.heap.size + 1 + 1) 44 zz9), (w.heap.size + 1, w.heap.size + 1 + 1, fun W => Blk W (w.heap.size + 1) 50 #[.int .i64 root, .slice AL l.length cl]), (w.heap.size, w.heap.size + 1, fun W => Blk W w.heap.size 44 #[.int .i64 x0, .slice A1 x1.length c1, .slice A2 ([] : List TyPut).length c2, .int .i64 x3, .int .i64 x4, .int .i64 x5, .slice A6 x6.length c6, .int .i64 x7, .int .i64 x8, .int .i64 x9, .slice A10 x10.length c10, .slice A11 x11.length c11, .slice A12 ([] : List Int).length c12])] p3 from HSX.out.only [0, 2, 3, 4, 5, 6, 7, 8]).within (hoF.within (lo := wD.heap.size) (hi := wD.heap.size + 1) (fun b hb => by have := List.mem_singleton.1 hb; omega)) (by omega) (fun f hf => by
     simp only [List.mem_cons, List.not_mem_nil, or_false] at hf
     rcases hf with rfl | rfl | rfl | rfl | rfl | rfl | rfl | rfl <;> dsimp only <;> omega)
    have HSX := hd_ (HS1.add (wD.heap.size) (wD.heap.size + 1) _ (loc_blk _ _ _) (by omega) hbF)
    refine ⟨⟨(HSX.out.get 2 rfl).cell, (HSX.out.get 3 rfl).cell⟩, fun hHeld => ?_⟩
    clear HS1 hsD hsG
    (refine tA 13 14 ?_; simp only [pz])
    refine AnyT.done (by kernel_rfl) ?_ _
    clear hHeld
    have f13 := (HSX.out.get 0 rfl).cell
    have f12 := (HSX.out.get 2 rfl).cell
    have z12 := (HSX.out.get 2 rfl).frozen
    go_upto_region 22 with fail
    have HO22 := hd_ (show Out [w9.heap.size] wF (((wF.setCell ⟨w9.heap.size, 0, none⟩ (.int .i64 x0)).setCell ⟨w9.heap.size, 1, none⟩ (.slice E1 x1.length e1)).setCell ⟨w9.heap.size, 2, none⟩ (.slice E2 ([((x3 + 1) % 2, mkB (topBytes (nextTop ((x0, x1, []), (x3, x4, x5, x6), (x7, x8, x9, x10), x11, []) (root, l) s2)))] : List TyPut).length e2)) from (((Out.refl _ _).setCell (p := ⟨w9.heap.size, 0, none⟩) (List.mem_cons_self ..) _).setCell (p := ⟨w9.heap.size, 1, none⟩) (List.mem_cons_self ..) _).setCell (p := ⟨w9.heap.size, 2, none⟩) (List.mem_cons_self ..) _)
    have HN22 : Hid (Blk (((wF.setCell ⟨w9.heap.size, 0, none⟩ (.int .i64 x0)).setCell ⟨w9.heap.size, 1, none⟩ (.slice E1 x1.length e1)).setCell ⟨w9.heap.size, 2, none⟩ (.slice E2 ([((x3 + 1) % 2, mkB (topBytes (nextTop ((x0, x1, []), (x3, x4, x5, x6), (x7, x8, x9, x10), x11, []) (root, l) s2)))] : List TyPut).length e2)) w9.heap.size 44 #[.int .i64 x0, .slice E1 x1.length e1, .slice E2 ([((x3 + 1) % 2, mkB (topBytes (nextTop ((x0, x1, []), (x3, x4, x5, x6), (x7, x8, x9, x10), x11, []) (root, l) s2)))] : List TyPut).length e2, .int .i64 x3, .int .i64 x4, .int .i64 x5, .slice B6 x6.length d6, .int .i64 (x3 + 1), .int .i64 root, .int .i64 s2, .slice A l.length cc, .slice B11 x11.length d11, .slice B12 ([] : List Int).length d12]) := hd_ (by
     have := (((HSX.out.get 2 rfl).set_ 0 (.int .i64 x0)).set_ 1 (.slice E1 x1.length e1)).set_ 2 (.slice E2 ([((x3 + 1) % 2, mkB (topBytes (nextTop ((x0, x1, []), (x3, x4, x5, x6), (x7, x8, x9, x10), x11, []) (root, l) s2)))] : List TyPut).length e2)
     simpa only [List.setIfInBounds_toArray, List.set_cons_zero, List.set_cons_succ] using this)
    clear f13 f12 z12
    generalize (((wF.setCell ⟨w9.heap.size, 0, none⟩ (.int .i64 x0)).setCell ⟨w9.heap.size, 1, none⟩ (.slice E1 x1.length e1)).setCell ⟨w9.heap.size, 2, none⟩ (.slice E2 ([((x3 + 1) % 2, mkB (topBytes (nextTop ((x0, x1, []), (x3, x4, x5, x6), (x7, x8, x9, x10), x11, []) (root, l) s2)))] : List TyPut).length e2)) = w22 at *
    have hsD := HZ11.out
    have hsG := HSG1.out
    have HS2 := (show Stand w [(p2.heap.size, p3.heap.size, fun W => shDisk.R W p2.heap.size p3.heap.size [.int .i64 x0, .slice E1 x1.length e1, .slice E2 ([((x3 + 1) % 2, mkB (topBytes (nextTop ((x0, x1, []), (x3, x4, x5, x6), (x7, x8, x9, x10), x11, []) (root, l) s2)))] : List TyPut).length e2] (x0, x1, [((x3 + 1) % 2, mkB (topBytes (nextTop ((x0, x1, []), (x3, x4, x5, x6), (x7, x8, x9, x10), x11, []) (root, l) s2)))])), (w6.heap.size, w6.heap.size + 1, fun W => Blk W w6.heap.size 42 #[.int .i64 (x3 + 1), .int .i64 root, .int .i64 s2, .slice A l.length cc]), (w6.heap.size + 1, wr.heap.size, fun W => Own (Sh.row 88 shSeat) W (w6.heap.size + 1) wr.heap.size [.slice A l.length cc] (seatsOf ((x0, x1, []), (x3, x4, x5, x6), (x7, x8, x9, x10), x11, []) (root, l))), (wr.heap.size, w9.heap.size, fun W => shCache.R W wr.heap.size w9.heap.size [.int .i64 x0, .slice B1 x1.length d1, .slice B2 ([] : List TyPut).length d2, .int .i64 x3, .int .i64 x4, .int .i64 x5, .slice B6 x6.length d6, .int .i64 x7, .int .i64 x8, .int .i64 x9, .slice B10 x10.length d10, .slice B11 x11.length d11, .slice B12 ([] : List Int).length d12] ((x0, x1, []), (x3, x4, x5, x6), (x7, x8, x9, x10), x11, [])), (w.heap.size + 1 + 1, w.heap.size + 1 + 1 + 1, fun W => Blk W (w.heap.size + 1 + 1) 44 zz9), (w.heap.size + 1, w.heap.size + 1 + 1, fun W => Blk W (w.heap.size + 1) 50 #[.int .i64 root, .slice AL l.length cl]), (w.heap.size, w.heap.size + 1, fun W => Blk W w.heap.size 44 #[.int .i64 x0, .slice A1 x1.length c1, .slice A2 ([] : List TyPut).length c2, .int .i64 x3, .int .i64 x4, .int .i64 x5, .slice A6 x6.length c6, .int .i64 x7, .int .i64 x8, .int .i64 x9, .slice A10 x10.length c10, .slice A11 x11.length c11, .slice A12 ([] : List Int).length c12])] wF from HSX.out.only [1, 3, 4, 5, 6, 7, 8]).within (HO22.out.within (lo := w9.heap.size) (hi := w9.heap.size + 1) (fun b hb => by have := List.mem_singleton.1 hb; omega)) (by omega) (fun f hf => by
     simp only [List.mem_cons, List.not_mem_nil, or_false] at hf
     rcases hf with rfl | rfl | rfl | rfl | rfl | rfl | rfl <;> dsimp only <;> omega)
    have HSY := hd_ HS2
    clear HS2 hsD hsG
    have f22 := HN22.out.cell
    have HONE3 := hd_ (show ∀ u ∈ (#[.int .i64 x0, .slice E1 x1.length e1, .slice E2 ([((x3 + 1) % 2, mkB (topBytes (nextTop ((x0, x1, []), (x3, x4, x5, x6), (x7, x8, x9, x10), x11, []) (root, l) s2)))] : List TyPut).length e2, .int .i64 x3, .int .i64 x4, .int .i64 x5, .slice B6 x6.length d6, .int .i64 (x3 + 1), .int .i64 root, .int .i64 s2, .slice A l.length cc, .slice B11 x11.length d11, .slice B12 ([] : List Int).length d12] : Array Value).toList, u.oneCell' = true from by
     intro u hu; simp only [List.mem_cons, List.not_mem_nil, or_false] at hu; rcases hu with rfl | rfl | rfl | rfl | rfl | rfl | rfl | rfl | rfl | rfl | rfl | rfl | rfl <;> rfl)
    go_wp2_with (first | fail | (refine wpList_storeAll rfl 44 (.tmp 6) (.tmp 111) rfl (w.heap.size + 1 + 1) #[.int .i64 x0, .slice E1 x1.length e1, .slice E2 ([((x3 + 1) % 2, mkB (topBytes (nextTop ((x0, x1, []), (x3, x4, x5, x6), (x7, x8, x9, x10), x11, []) (root, l) s2)))] : List TyPut).length e2, .int .i64 x3, .int .i64 x4, .int .i64 x5, .slice B6 x6.length d6, .int .i64 (x3 + 1), .int .i64 root, .int .i64 s2, .slice A l.length cc, .slice B11 x11.length d11, .slice B12 ([] : List Int).length d12] rfl rfl (HSY.out.get 4 rfl) (by kernel_rfl) rfl HONE3.out ?_; intro wZ hbZ hoZ hzZ))
    have hsD := HZ11.out
    have hsG := HSG1.out
    have HS3 := (show Stand w [(p2.heap.size, p3.heap.size, fun W => shDisk.R W p2.heap.size p3.heap.size [.int .i64 x0, .slice E1 x1.length e1, .slice E2 ([((x3 + 1) % 2, mkB (topBytes (nextTop ((x0, x1, []), (x3, x4, x5, x6), (x7, x8, x9, x10), x11, []) (root, l) s2)))] : List TyPut).length e2] (x0, x1, [((x3 + 1) % 2, mkB (topBytes (nextTop ((x0, x1, []), (x3, x4, x5, x6), (x7, x8, x9, x10), x11, []) (root, l) s2)))])), (w6.heap.size, w6.heap.size + 1, fun W => Blk W w6.heap.size 42 #[.int .i64 (x3 + 1), .int .i64 root, .int .i64 s2, .slice A l.length cc]), (w6.heap.size + 1, wr.heap.size, fun W => Own (Sh.row 88 shSeat) W (w6.heap.size + 1) wr.heap.size [.slice A l.length cc] (seatsOf ((x0, x1, []), (x3, x4, x5, x6), (x7, x8, x9, x10), x11, []) (root, l))), (wr.heap.size, w9.heap.size, fun W => shCache.R W wr.heap.size w9.heap.size [.int .i64 x0, .slice B1 x1.length d1, .slice B2 ([] : List TyPut).length d2, .int .i64 x3, .int .i64 x4, .int .i64 x5, .slice B6 x6.length d6, .int .i64 x7, .int .i64 x8, .int .i64 x9, .slice B10 x10.length d10, .slice B11 x11.length d11, .slice B12 ([] : List Int).length d12] ((x0, x1, []), (x3, x4, x5, x6), (x7, x8, x9, x10), x11, [])), (w.heap.size + 1, w.heap.size + 1 + 1, fun W => Blk W (w.heap.size + 1) 50 #[.int .i64 root, .slice AL l.length cl]), (w.heap.size, w.heap.size + 1, fun W => Blk W w.heap.size 44 #[.int .i64 x0, .slice A1 x1.length c1, .slice A2 ([] : List TyPut).length c2, .int .i64 x3, .int .i64 x4, .int .i64 x5, .slice A6 x6.length c6, .int .i64 x7, .int .i64 x8, .int .i64 x9, .slice A10 x10.length c10, .slice A11 x11.length c11, .slice A12 ([] : List Int).length c12])] w22 from HSY.out.only [0, 1, 2, 3, 5, 6]).within (hoZ.within (lo := w.heap.size + 1 + 1) (hi := w.heap.size + 1 + 1 + 1) (fun b hb => by have := List.mem_singleton.1 hb; omega)) (by omega) (fun f hf => by
     simp only [List.mem_cons, List.not_mem_nil, or_false] at hf
     rcases hf with rfl | rfl | rfl | rfl | rfl | rfl <;> dsimp only <;> omega)
    refine bodyPost_ret (results_cell_tmpB (P := Tryz.prog) rfl _ _ (w.heap.size + 1 + 1) 44 #[.int .i64 x0, .slice E1 x1.length e1, .slice E2 ([((x3 + 1) % 2, mkB (topBytes (nextTop ((x0, x1, []), (x3, x4, x5, x6), (x7, x8, x9, x10), x11, []) (root, l) s2)))] : List TyPut).length e2, .int .i64 x3, .int .i64 x4, .int .i64 x5, .slice B6 x6.length d6, .int .i64 (x3 + 1), .int .i64 root, .int .i64 s2, .slice A l.length cc, .slice B11 x11.length d11, .slice B12 ([] : List Int).length d12] (0, 0) _ rfl hbZ Tryz.underlying44 rfl (by kernel_rfl)) rfl ⟨[.int .i64 x0, .slice E1 x1.length e1, .slice E2 ([((x3 + 1) % 2, mkB (topBytes (nextTop ((x0, x1, []), (x3, x4, x5, x6), (x7, x8, x9, x10), x11, []) (root, l) s2)))] : List TyPut).length e2, .int .i64 x3, .int .i64 x4, .int .i64 x5, .slice B6 x6.length d6, .int .i64 (x3 + 1), .int .i64 root, .int .i64 s2, .slice A l.length cc, .slice B11 x11.length d11, .slice B12 ([] : List Int).length d12], by rw [show (beginR ((x0, x1, []), (x3, x4, x5, x6), (x7, x8, x9, x10), x11, []) (root, l) s2).2 = 0 from HC.out]; rfl, ?_, HS3.1⟩
    rw [show (beginR ((x0, x1, []), (x3, x4, x5, x6), (x7, x8, x9, x10), x11, []) (root, l) s2).1 = _ from HOUT.out]
    have e0 := HS3.get 0 rfl
    have eC := HS3.get 3 rfl
    have eS := (HS3.get 2 rfl).reads
    have l0 := HS3.le 0 rfl
    have lC := HS3.le 3 rfl
    have lS := HS3.le 2 rfl
    exact ⟨_, _, rfl, shDisk.R_more e0 (by omega) l0, _, _, rfl, shTop.R_more (shCache_f3 eC) (by omega) lC, _, _, rfl, shTop.R_more (shTop_R.2 ⟨A, cc, by rw [HLS.out], rowG_ofC (t := 88) (c := cc) (by rw [HLS.out]; exact eS)⟩) (by omega) lS, _, _, rfl, (Sh.row 88 shSeat).R_more (shCache_f11 eC) (by omega) lC, (Sh.row 2 shI).R_more (shCache_f12 eC) (by omega) lC⟩
end Go.Proofs.YtnnabkldceklmaaGreatDoor
