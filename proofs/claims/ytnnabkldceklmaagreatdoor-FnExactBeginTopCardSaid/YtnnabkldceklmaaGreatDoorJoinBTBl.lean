/- The reference's l18Own walked: a cache copied. -/
import Derived.Test.YtnnabkldceklmaaGreatDoorJoinBTBk
namespace Go.Proofs.YtnnabkldceklmaaGreatDoor
open Go.RowKit
theorem loc_lit (g : Nat) (t : TypeId) (k : Nat) : Loc g (g + 1) (fun W => W.ownsRow g t k (.slice (some ⟨g, 0, none⟩) 0 0) 0 []) := fun _ _ hk h => own_same h fun g' hg => by
 injection hg with hg
 have hg : g = g' := hg
 subst hg
 exact hk g (Nat.le_refl _) (by omega)
set_option maxHeartbeats 32000000 in
set_option maxRecDepth 100000 in
theorem l18Own_any (X : TyCache) (vs : List Value) (lo hi : Nat) (w : World) (h : shCache.R w lo hi vs X) (hhi : hi ≤ w.heap.size) (hf : shCache.fit 1048576 X) :
  Calls Tryz.prog 42 #[.agg vs.toArray] w fun e w' => (∃ us : List Value, e = .returned (.agg us.toArray) ∧ shCache.R w' w.heap.size w'.heap.size us X) ∧ Below w.heap.size w w' := by
 obtain ⟨⟨x0, x1, x2⟩, ⟨x3, x4, x5, x6⟩, ⟨x7, x8, x9, x10⟩, x11, x12⟩ := X
 obtain ⟨A1, c1, A2, c2, A6, c6, A10, c10, A11, c11, A12, c12, rfl, _⟩ := shCache_R.1 h
 obtain ⟨⟨_, ⟨hn1, _⟩, ⟨hn2, _⟩⟩, ⟨_, _, _, ⟨hn6, _⟩⟩, ⟨_, _, _, ⟨hn10, _⟩⟩, ⟨hn11, _⟩, ⟨hn12, _⟩⟩ := hf
 dsimp only at hn1 hn2 hn6 hn10 hn11 hn12
 have hz2 : ((w.alloc (.cells #[.int .i64 x0, .slice A1 x1.length c1, .slice A2 x2.length c2, .int .i64 x3, .int .i64 x4, .int .i64 x5, .slice A6 x6.length c6, .int .i64 x7, .int .i64 x8, .int .i64 x9, .slice A10 x10.length c10, .slice A11 x11.length c11, .slice A12 x12.length c12] 44)).alloc (.cells zz9 44)).heap.size = w.heap.size + 1 + 1 := by simp
 have HS0 : Stand w [(w.heap.size + 1, w.heap.size + 1 + 1, fun W => Blk W (w.heap.size + 1) 44 zz9), (w.heap.size, w.heap.size + 1, fun W => Blk W w.heap.size 44 #[.int .i64 x0, .slice A1 x1.length c1, .slice A2 x2.length c2, .int .i64 x3, .int .i64 x4, .int .i64 x5, .slice A6 x6.length c6, .int .i64 x7, .int .i64 x8, .int .i64 x9, .slice A10 x10.length c10, .slice A11 x11.length c11, .slice A12 x12.length c12])] ((w.alloc (.cells #[.int .i64 x0, .slice A1 x1.length c1, .slice A2 x2.length c2, .int .i64 x3, .int .i64 x4, .int .i64 x5, .slice A6 x6.length c6, .int .i64 x7, .int .i64 x8, .int .i64 x9, .slice A10 x10.length c10, .slice A11 x11.length c11, .slice A12 x12.length c12] 44)).alloc (.cells zz9 44)) := by
  have := (((Stand.nil w).box 44 #[.int .i64 x0, .slice A1 x1.length c1, .slice A2 x2.length c2, .int .i64 x3, .int .i64 x4, .int .i64 x5, .slice A6 x6.length c6, .int .i64 x7, .int .i64 x8, .int .i64 x9, .slice A10 x10.length c10, .slice A11 x11.length c11, .slice A12 x12.length c12]).box 44 zz9)
  rw [heap_alloc_size1] at this
  exact this
 have HRp := hd_ h
 clear h
 go_enter Tryz.func42, Tryz.ntmps42
 go_upto_region 1 with fail
 generalize ((w.alloc (.cells #[.int .i64 x0, .slice A1 x1.length c1, .slice A2 x2.length c2, .int .i64 x3, .int .i64 x4, .int .i64 x5, .slice A6 x6.length c6, .int .i64 x7, .int .i64 x8, .int .i64 x9, .slice A10 x10.length c10, .slice A11 x11.length c11, .slice A12 x12.length c12] 44)).alloc (.cells zz9 44)) = w2 at *
 have HZ := hd_ (show w2.drew.heap.size = w.heap.size + 1 + 1 from hz2)
 have HS := hd_ HS0.drew
 clear HS0 hz2
 refine AnyT.region (fun _ => false) (fun W => ∀ i, W.cell? ⟨w.heap.size, i, none⟩ = (#[.int .i64 x0, .slice A1 x1.length c1, .slice A2 x2.length c2, .int .i64 x3, .int .i64 x4, .int .i64 x5, .slice A6 x6.length c6, .int .i64 x7, .int .i64 x8, .int .i64 x9, .slice A10 x10.length c10, .slice A11 x11.length c11, .slice A12 x12.length c12] : Array Value)[i]?) (by kernel_rfl) (HS.out.get 1 rfl).cell (fun hHeld => ?_)
 generalize w2.drew = wD at *
 (refine tA 0 3 ?_; simp only [pz])
 (refine tK 1 4 ?_; simp only [pz])
 (refine tA 3 6 ?_; simp only [pz])
 (refine tK 4 7 ?_; simp only [pz])
 (refine tA 6 9 ?_; simp only [pz])
 (refine tK 7 10 ?_; simp only [pz])
 (refine tA 10 13 ?_; simp only [pz])
 (refine tK 11 14 ?_; simp only [pz])
 (refine tA 13 16 ?_; simp only [pz])
 (refine tK 14 17 ?_; simp only [pz])
 refine AnyT.either (i := 2) (j := 9) (by kernel_rfl) rfl rfl (fun K hK => ?_) (fun K hK => ?_)
 ·go_simp
  refine (l17Own_any (x0, x1, x2) _ lo hi _ (shCache_f0 (shCache.R_below HRp.out HS.out.1 hhi)) (Nat.le_trans hhi HS.out.1.size) hn1 hn2).mono ?_
  rintro e1 q1 ⟨⟨usx, rfl, hr⟩, hb⟩
  obtain ⟨B1, d1, B2, d2, rfl, _⟩ := shDisk_R.1 hr
  go_simp
  have hs1 := hb.size
  have HS := hd_ ((HS.out.below hb).add wD.heap.size q1.heap.size (fun W => shDisk.R W wD.heap.size q1.heap.size [.int .i64 x0, .slice B1 x1.length d1, .slice B2 x2.length d2] (x0, x1, x2)) (loc_sh _ _ _ _ _) (Nat.le_refl _) hr)
  refine hK.out _ _ (HS.out.get 2 rfl).cell (fun hHeld => ?_)
  clear hK K hr hb
  (try simp only [pz])
  refine AnyT.either (i := 5) (j := 9) (by kernel_rfl) rfl rfl (fun K hK => ?_) (fun K hK => ?_)
  ·go_simp
   refine (l18OwnTop_any (x3, x4, x5, x6) _ lo hi _ (shCache_f3 (shCache.R_below HRp.out HS.out.1 hhi)) (Nat.le_trans hhi HS.out.1.size) hn6).mono ?_
   rintro e1 q2 ⟨⟨usx, rfl, hr⟩, hb⟩
   obtain ⟨B6, d6, rfl, _⟩ := shTop_R.1 hr
   go_simp
   have hs2 := hb.size
   have HS := hd_ ((HS.out.below hb).add q1.heap.size q2.heap.size (fun W => shTop.R W q1.heap.size q2.heap.size [.int .i64 x3, .int .i64 x4, .int .i64 x5, .slice B6 x6.length d6] (x3, x4, x5, x6)) (loc_sh _ _ _ _ _) (Nat.le_refl _) hr)
   refine hK.out _ _ (HS.out.get 3 rfl).cell (fun hHeld => ?_)
   clear hK K hr hb
   (try simp only [pz])
   refine AnyT.either (i := 8) (j := 9) (by kernel_rfl) rfl rfl (fun K hK => ?_) (fun K hK => ?_)
   ·go_simp
    refine (l18OwnTop_any (x7, x8, x9, x10) _ lo hi _ (shCache_f7 (shCache.R_below HRp.out HS.out.1 hhi)) (Nat.le_trans hhi HS.out.1.size) hn10).mono ?_
    rintro e1 q3 ⟨⟨usx, rfl, hr⟩, hb⟩
    obtain ⟨B10, d10, rfl, _⟩ := shTop_R.1 hr
    go_simp
    have hs3 := hb.size
    have HS := hd_ ((HS.out.below hb).add q2.heap.size q3.heap.size (fun W => shTop.R W q2.heap.size q3.heap.size [.int .i64 x7, .int .i64 x8, .int .i64 x9, .slice B10 x10.length d10] (x7, x8, x9, x10)) (loc_sh _ _ _ _ _) (Nat.le_refl _) hr)
    refine hK.out _ _ (HS.out.get 4 rfl).cell (fun hHeld => ?_)
    clear hK K hr hb
    (try simp only [pz])
    refine oNe 9 fun K hK => ?_
    go_simp
    have HS := hd_ ((HS.out.alloc (.cells #[] 88)).add q3.heap.size (q3.heap.size + 1) (fun W => W.ownsRow q3.heap.size 88 shSeat.k (.slice (some ⟨q3.heap.size, 0, none⟩) 0 0) 0 []) (loc_lit _ _ _) (by simp) (lit0_ownC _ _ (Nat.le_refl _)))
    have hs4 : q3.heap.size + 1 = (q3.alloc (.cells #[] 88)).heap.size := by simp
    refine hK.out _ _ (HS.out.get 5 rfl).cell (fun hHeld => ?_)
    clear hK K
    (try simp only [pz])
    have HE4 := hd_ hs4; clear hs4
    generalize (q3.alloc (.cells #[] 88)) = q4 at *
    refine oNe 12 fun K hK => ?_
    refine step_growRO (s := shSeat) rfl (.tmp 12) (.tmp 14) 40 rfl Tryz.underlying40 rfl (by decide) (by decide) infoSeat flatSeat _ (q3.heap.size) lo hi A11 c11 x11 rfl (HS.out.get 0 rfl) (HS.out.le 0 rfl) rfl (rowG_ofC (t := 88) (shCache_f11 (shCache.R_below HRp.out HS.out.1 hhi))) (by omega) ?_
    intro j11 d11 q5 ho hout hor hj
    have hs5 := hout.size
    have hE := HE4.out
    have HS1 := (show Stand w [(q2.heap.size, q3.heap.size, fun W => shTop.R W q2.heap.size q3.heap.size [.int .i64 x7, .int .i64 x8, .int .i64 x9, .slice B10 x10.length d10] (x7, x8, x9, x10)), (q1.heap.size, q2.heap.size, fun W => shTop.R W q1.heap.size q2.heap.size [.int .i64 x3, .int .i64 x4, .int .i64 x5, .slice B6 x6.length d6] (x3, x4, x5, x6)), (wD.heap.size, q1.heap.size, fun W => shDisk.R W wD.heap.size q1.heap.size [.int .i64 x0, .slice B1 x1.length d1, .slice B2 x2.length d2] (x0, x1, x2)), (w.heap.size + 1, w.heap.size + 1 + 1, fun W => Blk W (w.heap.size + 1) 44 zz9), (w.heap.size, w.heap.size + 1, fun W => Blk W w.heap.size 44 #[.int .i64 x0, .slice A1 x1.length c1, .slice A2 x2.length c2, .int .i64 x3, .int .i64 x4, .int .i64 x5, .slice A6 x6.length c6, .int .i64 x7, .int .i64 x8, .int .i64 x9, .slice A10 x10.length c10, .slice A11 x11.length c11, .slice A12 x12.length c12])] q4 from HS.out.only [1, 2, 3, 4, 5]).within (hout.within (lo := q3.heap.size) (hi := q3.heap.size + 1) (fun b hb => by have := List.mem_singleton.1 hb; omega)) (by have hsD := HZ.out; omega) (fun f hf => by
     have hsD := HZ.out
     simp only [List.mem_cons, List.not_mem_nil, or_false] at hf
     rcases hf with rfl | rfl | rfl | rfl | rfl <;> dsimp only <;> omega)
    have HS := hd_ (HS1.add j11 (j11 + 1) (fun W => Own (Sh.row 88 shSeat) W j11 (j11 + 1) [.slice (some ⟨j11, 0, none⟩) x11.length d11] x11) (loc_own _ _ _ _ _) hj ho)
    refine hK.out _ _ (HS.out.get 5 rfl).cell (fun hHeld => ?_)
    clear hK K ho hout HS1 hE
    (try simp only [pz])
    refine oNe 15 fun K hK => ?_
    go_simp
    refine (l00Own_any A12 c12 lo hi x12 _ (shCache_f12 (shCache.R_below HRp.out HS.out.1 hhi)) (Nat.le_trans hhi HS.out.1.size) hn12).mono ?_
    rintro e1 q6 ⟨⟨B12, d12, rfl, hr⟩, hb⟩
    have hr := hr.reads
    go_simp
    have hs6 := hb.size
    have HS := hd_ ((HS.out.below hb).add q5.heap.size q6.heap.size (fun W => (Sh.row 2 shI).R W q5.heap.size q6.heap.size [.slice B12 x12.length d12] x12) (loc_sh _ _ _ _ _) (Nat.le_refl _) hr)
    refine hK.out _ _ (HS.out.get 6 rfl).cell (fun hHeld => ?_)
    clear hK K hr hb
    (try simp only [pz])
    (refine tA 16 19 ?_; simp only [pz])
    have HONE := hd_ (show ∀ u ∈ (#[.int .i64 x0, .slice B1 x1.length d1, .slice B2 x2.length d2, .int .i64 x3, .int .i64 x4, .int .i64 x5, .slice B6 x6.length d6, .int .i64 x7, .int .i64 x8, .int .i64 x9, .slice B10 x10.length d10, .slice (some ⟨j11, 0, none⟩) x11.length d11, .slice B12 x12.length d12] : Array Value).toList, u.oneCell' = true from by
     intro u hu; simp only [List.mem_cons, List.not_mem_nil, or_false] at hu; rcases hu with rfl | rfl | rfl | rfl | rfl | rfl | rfl | rfl | rfl | rfl | rfl | rfl | rfl <;> rfl)
    refine AnyT.storeAll (i := 17) (by kernel_rfl) rfl (by kernel_rfl) 44 (.tmp 2) (.tmp 19) rfl (w.heap.size + 1) #[.int .i64 x0, .slice B1 x1.length d1, .slice B2 x2.length d2, .int .i64 x3, .int .i64 x4, .int .i64 x5, .slice B6 x6.length d6, .int .i64 x7, .int .i64 x8, .int .i64 x9, .slice B10 x10.length d10, .slice (some ⟨j11, 0, none⟩) x11.length d11, .slice B12 x12.length d12] rfl rfl (HS.out.get 5 rfl) (by kernel_rfl) rfl HONE.out ?_
    intro wF hbF hoF hzF
    have hsD := HZ.out
    have hE := HE4.out
    have HS1 := (show Stand w [(q5.heap.size, q6.heap.size, fun W => (Sh.row 2 shI).R W q5.heap.size q6.heap.size [.slice B12 x12.length d12] x12), (j11, j11 + 1, fun W => Own (Sh.row 88 shSeat) W j11 (j11 + 1) [.slice (some ⟨j11, 0, none⟩) x11.length d11] x11), (q2.heap.size, q3.heap.size, fun W => shTop.R W q2.heap.size q3.heap.size [.int .i64 x7, .int .i64 x8, .int .i64 x9, .slice B10 x10.length d10] (x7, x8, x9, x10)), (q1.heap.size, q2.heap.size, fun W => shTop.R W q1.heap.size q2.heap.size [.int .i64 x3, .int .i64 x4, .int .i64 x5, .slice B6 x6.length d6] (x3, x4, x5, x6)), (wD.heap.size, q1.heap.size, fun W => shDisk.R W wD.heap.size q1.heap.size [.int .i64 x0, .slice B1 x1.length d1, .slice B2 x2.length d2] (x0, x1, x2)), (w.heap.size, w.heap.size + 1, fun W => Blk W w.heap.size 44 #[.int .i64 x0, .slice A1 x1.length c1, .slice A2 x2.length c2, .int .i64 x3, .int .i64 x4, .int .i64 x5, .slice A6 x6.length c6, .int .i64 x7, .int .i64 x8, .int .i64 x9, .slice A10 x10.length c10, .slice A11 x11.length c11, .slice A12 x12.length c12])] q6 from HS.out.only [0, 1, 2, 3, 4, 6]).within (hoF.within (lo := w.heap.size + 1) (hi := w.heap.size + 1 + 1) (fun b hb => by have := List.mem_singleton.1 hb; omega)) (by omega) (fun f hf => by
     simp only [List.mem_cons, List.not_mem_nil, or_false] at hf
     rcases hf with rfl | rfl | rfl | rfl | rfl | rfl <;> dsimp only <;> omega)
    refine ⟨(HS1.get 5 rfl).cell, fun hHeld => ?_⟩
    have HSF := hd_ HS1
    clear hHeld HS1 HS
    refine AnyT.done (by kernel_rfl) ?_ _
    go_wp2_with fail
    refine bodyPost_ret (results_cell_row (P := Tryz.prog) rfl _ _ (w.heap.size + 1) 44 #[.int .i64 x0, .slice B1 x1.length d1, .slice B2 x2.length d2, .int .i64 x3, .int .i64 x4, .int .i64 x5, .slice B6 x6.length d6, .int .i64 x7, .int .i64 x8, .int .i64 x9, .slice B10 x10.length d10, .slice (some ⟨j11, 0, none⟩) x11.length d11, .slice B12 x12.length d12] (0, 0) _ rfl hbF Tryz.underlying44 rfl (by kernel_rfl)) rfl ⟨⟨[.int .i64 x0, .slice B1 x1.length d1, .slice B2 x2.length d2, .int .i64 x3, .int .i64 x4, .int .i64 x5, .slice B6 x6.length d6, .int .i64 x7, .int .i64 x8, .int .i64 x9, .slice B10 x10.length d10, .slice (some ⟨j11, 0, none⟩) x11.length d11, .slice B12 x12.length d12], rfl, ?_⟩, HSF.out.1⟩
    have e0 := HSF.out.get 4 rfl
    have e1 := HSF.out.get 3 rfl
    have e2 := HSF.out.get 2 rfl
    have e3 := (HSF.out.get 1 rfl).reads
    have e4 := HSF.out.get 0 rfl
    have l0 := HSF.out.le 4 rfl
    have l1 := HSF.out.le 3 rfl
    have l2 := HSF.out.le 2 rfl
    have l3 := HSF.out.le 1 rfl
    have l4 := HSF.out.le 0 rfl
    exact ⟨_, _, rfl, shDisk.R_more e0 (by omega) l0, _, _, rfl, shTop.R_more e1 (by omega) l1, _, _, rfl, shTop.R_more e2 (by omega) l2, _, _, rfl, (Sh.row 88 shSeat).R_more e3 (by omega) l3, (Sh.row 2 shI).R_more e4 (by omega) l4⟩
   ·go_simp
    have HS := hd_ ((HS.out.alloc (.cells #[] 88)).add q2.heap.size (q2.heap.size + 1) (fun W => W.ownsRow q2.heap.size 88 shSeat.k (.slice (some ⟨q2.heap.size, 0, none⟩) 0 0) 0 []) (loc_lit _ _ _) (by simp) (lit0_ownC _ _ (Nat.le_refl _)))
    have hs3 : q2.heap.size + 1 = (q2.alloc (.cells #[] 88)).heap.size := by simp
    refine hK.out _ _ (HS.out.get 4 rfl).cell (fun hHeld => ?_)
    clear hK K
    (try simp only [pz])
    have HE3 := hd_ hs3; clear hs3
    generalize (q2.alloc (.cells #[] 88)) = q3 at *
    refine oNe 8 fun K hK => ?_
    go_simp
    refine (l18OwnTop_any (x7, x8, x9, x10) _ lo hi _ (shCache_f7 (shCache.R_below HRp.out HS.out.1 hhi)) (Nat.le_trans hhi HS.out.1.size) hn10).mono ?_
    rintro e1 q4 ⟨⟨usx, rfl, hr⟩, hb⟩
    obtain ⟨B10, d10, rfl, _⟩ := shTop_R.1 hr
    go_simp
    have hs4 := hb.size
    have HS := hd_ ((HS.out.below hb).add q3.heap.size q4.heap.size (fun W => shTop.R W q3.heap.size q4.heap.size [.int .i64 x7, .int .i64 x8, .int .i64 x9, .slice B10 x10.length d10] (x7, x8, x9, x10)) (loc_sh _ _ _ _ _) (Nat.le_refl _) hr)
    refine hK.out _ _ (HS.out.get 5 rfl).cell (fun hHeld => ?_)
    clear hK K hr hb
    (try simp only [pz])
    refine oNe 12 fun K hK => ?_
    refine step_growRO (s := shSeat) rfl (.tmp 12) (.tmp 14) 40 rfl Tryz.underlying40 rfl (by decide) (by decide) infoSeat flatSeat _ (q2.heap.size) lo hi A11 c11 x11 rfl (HS.out.get 1 rfl) (HS.out.le 1 rfl) rfl (rowG_ofC (t := 88) (shCache_f11 (shCache.R_below HRp.out HS.out.1 hhi))) (by omega) ?_
    intro j11 d11 q5 ho hout hor hj
    have hs5 := hout.size
    have hE := HE3.out
    have HS1 := (show Stand w [(q3.heap.size, q4.heap.size, fun W => shTop.R W q3.heap.size q4.heap.size [.int .i64 x7, .int .i64 x8, .int .i64 x9, .slice B10 x10.length d10] (x7, x8, x9, x10)), (q1.heap.size, q2.heap.size, fun W => shTop.R W q1.heap.size q2.heap.size [.int .i64 x3, .int .i64 x4, .int .i64 x5, .slice B6 x6.length d6] (x3, x4, x5, x6)), (wD.heap.size, q1.heap.size, fun W => shDisk.R W wD.heap.size q1.heap.size [.int .i64 x0, .slice B1 x1.length d1, .slice B2 x2.length d2] (x0, x1, x2)), (w.heap.size + 1, w.heap.size + 1 + 1, fun W => Blk W (w.heap.size + 1) 44 zz9), (w.heap.size, w.heap.size + 1, fun W => Blk W w.heap.size 44 #[.int .i64 x0, .slice A1 x1.length c1, .slice A2 x2.length c2, .int .i64 x3, .int .i64 x4, .int .i64 x5, .slice A6 x6.length c6, .int .i64 x7, .int .i64 x8, .int .i64 x9, .slice A10 x10.length c10, .slice A11 x11.length c11, .slice A12 x12.length c12])] q4 from HS.out.only [0, 2, 3, 4, 5]).within (hout.within (lo := q2.heap.size) (hi := q2.heap.size + 1) (fun b hb => by have := List.mem_singleton.1 hb; omega)) (by have hsD := HZ.out; omega) (fun f hf => by
     have hsD := HZ.out
     simp only [List.mem_cons, List.not_mem_nil, or_false] at hf
     rcases hf with rfl | rfl | rfl | rfl | rfl <;> dsimp only <;> omega)
    have HS := hd_ (HS1.add j11 (j11 + 1) (fun W => Own (Sh.row 88 shSeat) W j11 (j11 + 1) [.slice (some ⟨j11, 0, none⟩) x11.length d11] x11) (loc_own _ _ _ _ _) hj ho)
    refine hK.out _ _ (HS.out.get 5 rfl).cell (fun hHeld => ?_)
    clear hK K ho hout HS1 hE
    (try simp only [pz])
    refine oNe 15 fun K hK => ?_
    go_simp
    refine (l00Own_any A12 c12 lo hi x12 _ (shCache_f12 (shCache.R_below HRp.out HS.out.1 hhi)) (Nat.le_trans hhi HS.out.1.size) hn12).mono ?_
    rintro e1 q6 ⟨⟨B12, d12, rfl, hr⟩, hb⟩
    have hr := hr.reads
    go_simp
    have hs6 := hb.size
    have HS := hd_ ((HS.out.below hb).add q5.heap.size q6.heap.size (fun W => (Sh.row 2 shI).R W q5.heap.size q6.heap.size [.slice B12 x12.length d12] x12) (loc_sh _ _ _ _ _) (Nat.le_refl _) hr)
    refine hK.out _ _ (HS.out.get 6 rfl).cell (fun hHeld => ?_)
    clear hK K hr hb
    (try simp only [pz])
    (refine tA 16 19 ?_; simp only [pz])
    have HONE := hd_ (show ∀ u ∈ (#[.int .i64 x0, .slice B1 x1.length d1, .slice B2 x2.length d2, .int .i64 x3, .int .i64 x4, .int .i64 x5, .slice B6 x6.length d6, .int .i64 x7, .int .i64 x8, .int .i64 x9, .slice B10 x10.length d10, .slice (some ⟨j11, 0, none⟩) x11.length d11, .slice B12 x12.length d12] : Array Value).toList, u.oneCell' = true from by
     intro u hu; simp only [List.mem_cons, List.not_mem_nil, or_false] at hu; rcases hu with rfl | rfl | rfl | rfl | rfl | rfl | rfl | rfl | rfl | rfl | rfl | rfl | rfl <;> rfl)
    refine AnyT.storeAll (i := 17) (by kernel_rfl) rfl (by kernel_rfl) 44 (.tmp 2) (.tmp 19) rfl (w.heap.size + 1) #[.int .i64 x0, .slice B1 x1.length d1, .slice B2 x2.length d2, .int .i64 x3, .int .i64 x4, .int .i64 x5, .slice B6 x6.length d6, .int .i64 x7, .int .i64 x8, .int .i64 x9, .slice B10 x10.length d10, .slice (some ⟨j11, 0, none⟩) x11.length d11, .slice B12 x12.length d12] rfl rfl (HS.out.get 5 rfl) (by kernel_rfl) rfl HONE.out ?_
    intro wF hbF hoF hzF
    have hsD := HZ.out
    have hE := HE3.out
    have HS1 := (show Stand w [(q5.heap.size, q6.heap.size, fun W => (Sh.row 2 shI).R W q5.heap.size q6.heap.size [.slice B12 x12.length d12] x12), (j11, j11 + 1, fun W => Own (Sh.row 88 shSeat) W j11 (j11 + 1) [.slice (some ⟨j11, 0, none⟩) x11.length d11] x11), (q3.heap.size, q4.heap.size, fun W => shTop.R W q3.heap.size q4.heap.size [.int .i64 x7, .int .i64 x8, .int .i64 x9, .slice B10 x10.length d10] (x7, x8, x9, x10)), (q1.heap.size, q2.heap.size, fun W => shTop.R W q1.heap.size q2.heap.size [.int .i64 x3, .int .i64 x4, .int .i64 x5, .slice B6 x6.length d6] (x3, x4, x5, x6)), (wD.heap.size, q1.heap.size, fun W => shDisk.R W wD.heap.size q1.heap.size [.int .i64 x0, .slice B1 x1.length d1, .slice B2 x2.length d2] (x0, x1, x2)), (w.heap.size, w.heap.size + 1, fun W => Blk W w.heap.size 44 #[.int .i64 x0, .slice A1 x1.length c1, .slice A2 x2.length c2, .int .i64 x3, .int .i64 x4, .int .i64 x5, .slice A6 x6.length c6, .int .i64 x7, .int .i64 x8, .int .i64 x9, .slice A10 x10.length c10, .slice A11 x11.length c11, .slice A12 x12.length c12])] q6 from HS.out.only [0, 1, 2, 3, 4, 6]).within (hoF.within (lo := w.heap.size + 1) (hi := w.heap.size + 1 + 1) (fun b hb => by have := List.mem_singleton.1 hb; omega)) (by omega) (fun f hf => by
     simp only [List.mem_cons, List.not_mem_nil, or_false] at hf
     rcases hf with rfl | rfl | rfl | rfl | rfl | rfl <;> dsimp only <;> omega)
    refine ⟨(HS1.get 5 rfl).cell, fun hHeld => ?_⟩
    have HSF := hd_ HS1
    clear hHeld HS1 HS
    refine AnyT.done (by kernel_rfl) ?_ _
    go_wp2_with fail
    refine bodyPost_ret (results_cell_row (P := Tryz.prog) rfl _ _ (w.heap.size + 1) 44 #[.int .i64 x0, .slice B1 x1.length d1, .slice B2 x2.length d2, .int .i64 x3, .int .i64 x4, .int .i64 x5, .slice B6 x6.length d6, .int .i64 x7, .int .i64 x8, .int .i64 x9, .slice B10 x10.length d10, .slice (some ⟨j11, 0, none⟩) x11.length d11, .slice B12 x12.length d12] (0, 0) _ rfl hbF Tryz.underlying44 rfl (by kernel_rfl)) rfl ⟨⟨[.int .i64 x0, .slice B1 x1.length d1, .slice B2 x2.length d2, .int .i64 x3, .int .i64 x4, .int .i64 x5, .slice B6 x6.length d6, .int .i64 x7, .int .i64 x8, .int .i64 x9, .slice B10 x10.length d10, .slice (some ⟨j11, 0, none⟩) x11.length d11, .slice B12 x12.length d12], rfl, ?_⟩, HSF.out.1⟩
    have e0 := HSF.out.get 4 rfl
    have e1 := HSF.out.get 3 rfl
    have e2 := HSF.out.get 2 rfl
    have e3 := (HSF.out.get 1 rfl).reads
    have e4 := HSF.out.get 0 rfl
    have l0 := HSF.out.le 4 rfl
    have l1 := HSF.out.le 3 rfl
    have l2 := HSF.out.le 2 rfl
    have l3 := HSF.out.le 1 rfl
    have l4 := HSF.out.le 0 rfl
    exact ⟨_, _, rfl, shDisk.R_more e0 (by omega) l0, _, _, rfl, shTop.R_more e1 (by omega) l1, _, _, rfl, shTop.R_more e2 (by omega) l2, _, _, rfl, (Sh.row 88 shSeat).R_more e3 (by omega) l3, (Sh.row 2 shI).R_more e4 (by omega) l4⟩
  ·go_simp
   have HS := hd_ ((HS.out.alloc (.cells #[] 88)).add q1.heap.size (q1.heap.size + 1) (fun W => W.ownsRow q1.heap.size 88 shSeat.k (.slice (some ⟨q1.heap.size, 0, none⟩) 0 0) 0 []) (loc_lit _ _ _) (by simp) (lit0_ownC _ _ (Nat.le_refl _)))
   have hs2 : q1.heap.size + 1 = (q1.alloc (.cells #[] 88)).heap.size := by simp
   refine hK.out _ _ (HS.out.get 3 rfl).cell (fun hHeld => ?_)
   clear hK K
   (try simp only [pz])
   have HE2 := hd_ hs2; clear hs2
   generalize (q1.alloc (.cells #[] 88)) = q2 at *
   refine oNe 5 fun K hK => ?_
   go_simp
   refine (l18OwnTop_any (x3, x4, x5, x6) _ lo hi _ (shCache_f3 (shCache.R_below HRp.out HS.out.1 hhi)) (Nat.le_trans hhi HS.out.1.size) hn6).mono ?_
   rintro e1 q3 ⟨⟨usx, rfl, hr⟩, hb⟩
   obtain ⟨B6, d6, rfl, _⟩ := shTop_R.1 hr
   go_simp
   have hs3 := hb.size
   have HS := hd_ ((HS.out.below hb).add q2.heap.size q3.heap.size (fun W => shTop.R W q2.heap.size q3.heap.size [.int .i64 x3, .int .i64 x4, .int .i64 x5, .slice B6 x6.length d6] (x3, x4, x5, x6)) (loc_sh _ _ _ _ _) (Nat.le_refl _) hr)
   refine hK.out _ _ (HS.out.get 4 rfl).cell (fun hHeld => ?_)
   clear hK K hr hb
   (try simp only [pz])
   refine oNe 8 fun K hK => ?_
   go_simp
   refine (l18OwnTop_any (x7, x8, x9, x10) _ lo hi _ (shCache_f7 (shCache.R_below HRp.out HS.out.1 hhi)) (Nat.le_trans hhi HS.out.1.size) hn10).mono ?_
   rintro e1 q4 ⟨⟨usx, rfl, hr⟩, hb⟩
   obtain ⟨B10, d10, rfl, _⟩ := shTop_R.1 hr
   go_simp
   have hs4 := hb.size
   have HS := hd_ ((HS.out.below hb).add q3.heap.size q4.heap.size (fun W => shTop.R W q3.heap.size q4.heap.size [.int .i64 x7, .int .i64 x8, .int .i64 x9, .slice B10 x10.length d10] (x7, x8, x9, x10)) (loc_sh _ _ _ _ _) (Nat.le_refl _) hr)
   refine hK.out _ _ (HS.out.get 5 rfl).cell (fun hHeld => ?_)
   clear hK K hr hb
   (try simp only [pz])
   refine oNe 12 fun K hK => ?_
   refine step_growRO (s := shSeat) rfl (.tmp 12) (.tmp 14) 40 rfl Tryz.underlying40 rfl (by decide) (by decide) infoSeat flatSeat _ (q1.heap.size) lo hi A11 c11 x11 rfl (HS.out.get 2 rfl) (HS.out.le 2 rfl) rfl (rowG_ofC (t := 88) (shCache_f11 (shCache.R_below HRp.out HS.out.1 hhi))) (by omega) ?_
   intro j11 d11 q5 ho hout hor hj
   have hs5 := hout.size
   have hE := HE2.out
   have HS1 := (show Stand w [(q3.heap.size, q4.heap.size, fun W => shTop.R W q3.heap.size q4.heap.size [.int .i64 x7, .int .i64 x8, .int .i64 x9, .slice B10 x10.length d10] (x7, x8, x9, x10)), (q2.heap.size, q3.heap.size, fun W => shTop.R W q2.heap.size q3.heap.size [.int .i64 x3, .int .i64 x4, .int .i64 x5, .slice B6 x6.length d6] (x3, x4, x5, x6)), (wD.heap.size, q1.heap.size, fun W => shDisk.R W wD.heap.size q1.heap.size [.int .i64 x0, .slice B1 x1.length d1, .slice B2 x2.length d2] (x0, x1, x2)), (w.heap.size + 1, w.heap.size + 1 + 1, fun W => Blk W (w.heap.size + 1) 44 zz9), (w.heap.size, w.heap.size + 1, fun W => Blk W w.heap.size 44 #[.int .i64 x0, .slice A1 x1.length c1, .slice A2 x2.length c2, .int .i64 x3, .int .i64 x4, .int .i64 x5, .slice A6 x6.length c6, .int .i64 x7, .int .i64 x8, .int .i64 x9, .slice A10 x10.length c10, .slice A11 x11.length c11, .slice A12 x12.length c12])] q4 from HS.out.only [0, 1, 3, 4, 5]).within (hout.within (lo := q1.heap.size) (hi := q1.heap.size + 1) (fun b hb => by have := List.mem_singleton.1 hb; omega)) (by have hsD := HZ.out; omega) (fun f hf => by
    have hsD := HZ.out
    simp only [List.mem_cons, List.not_mem_nil, or_false] at hf
    rcases hf with rfl | rfl | rfl | rfl | rfl <;> dsimp only <;> omega)
   have HS := hd_ (HS1.add j11 (j11 + 1) (fun W => Own (Sh.row 88 shSeat) W j11 (j11 + 1) [.slice (some ⟨j11, 0, none⟩) x11.length d11] x11) (loc_own _ _ _ _ _) hj ho)
   refine hK.out _ _ (HS.out.get 5 rfl).cell (fun hHeld => ?_)
   clear hK K ho hout HS1 hE
   (try simp only [pz])
   refine oNe 15 fun K hK => ?_
   go_simp
   refine (l00Own_any A12 c12 lo hi x12 _ (shCache_f12 (shCache.R_below HRp.out HS.out.1 hhi)) (Nat.le_trans hhi HS.out.1.size) hn12).mono ?_
   rintro e1 q6 ⟨⟨B12, d12, rfl, hr⟩, hb⟩
   have hr := hr.reads
   go_simp
   have hs6 := hb.size
   have HS := hd_ ((HS.out.below hb).add q5.heap.size q6.heap.size (fun W => (Sh.row 2 shI).R W q5.heap.size q6.heap.size [.slice B12 x12.length d12] x12) (loc_sh _ _ _ _ _) (Nat.le_refl _) hr)
   refine hK.out _ _ (HS.out.get 6 rfl).cell (fun hHeld => ?_)
   clear hK K hr hb
   (try simp only [pz])
   (refine tA 16 19 ?_; simp only [pz])
   have HONE := hd_ (show ∀ u ∈ (#[.int .i64 x0, .slice B1 x1.length d1, .slice B2 x2.length d2, .int .i64 x3, .int .i64 x4, .int .i64 x5, .slice B6 x6.length d6, .int .i64 x7, .int .i64 x8, .int .i64 x9, .slice B10 x10.length d10, .slice (some ⟨j11, 0, none⟩) x11.length d11, .slice B12 x12.length d12] : Array Value).toList, u.oneCell' = true from by
    intro u hu; simp only [List.mem_cons, List.not_mem_nil, or_false] at hu; rcases hu with rfl | rfl | rfl | rfl | rfl | rfl | rfl | rfl | rfl | rfl | rfl | rfl | rfl <;> rfl)
   refine AnyT.storeAll (i := 17) (by kernel_rfl) rfl (by kernel_rfl) 44 (.tmp 2) (.tmp 19) rfl (w.heap.size + 1) #[.int .i64 x0, .slice B1 x1.length d1, .slice B2 x2.length d2, .int .i64 x3, .int .i64 x4, .int .i64 x5, .slice B6 x6.length d6, .int .i64 x7, .int .i64 x8, .int .i64 x9, .slice B10 x10.length d10, .slice (some ⟨j11, 0, none⟩) x11.length d11, .slice B12 x12.length d12] rfl rfl (HS.out.get 5 rfl) (by kernel_rfl) rfl HONE.out ?_
   intro wF hbF hoF hzF
   have hsD := HZ.out
   have hE := HE2.out
   have HS1 := (show Stand w [(q5.heap.size, q6.heap.size, fun W => (Sh.row 2 shI).R W q5.heap.size q6.heap.size [.slice B12 x12.length d12] x12), (j11, j11 + 1, fun W => Own (Sh.row 88 shSeat) W j11 (j11 + 1) [.slice (some ⟨j11, 0, none⟩) x11.length d11] x11), (q3.heap.size, q4.heap.size, fun W => shTop.R W q3.heap.size q4.heap.size [.int .i64 x7, .int .i64 x8, .int .i64 x9, .slice B10 x10.length d10] (x7, x8, x9, x10)), (q2.heap.size, q3.heap.size, fun W => shTop.R W q2.heap.size q3.heap.size [.int .i64 x3, .int .i64 x4, .int .i64 x5, .slice B6 x6.length d6] (x3, x4, x5, x6)), (wD.heap.size, q1.heap.size, fun W => shDisk.R W wD.heap.size q1.heap.size [.int .i64 x0, .slice B1 x1.length d1, .slice B2 x2.length d2] (x0, x1, x2)), (w.heap.size, w.heap.size + 1, fun W => Blk W w.heap.size 44 #[.int .i64 x0, .slice A1 x1.length c1, .slice A2 x2.length c2, .int .i64 x3, .int .i64 x4, .int .i64 x5, .slice A6 x6.length c6, .int .i64 x7, .int .i64 x8, .int .i64 x9, .slice A10 x10.length c10, .slice A11 x11.length c11, .slice A12 x12.length c12])] q6 from HS.out.only [0, 1, 2, 3, 4, 6]).within (hoF.within (lo := w.heap.size + 1) (hi := w.heap.size + 1 + 1) (fun b hb => by have := List.mem_singleton.1 hb; omega)) (by omega) (fun f hf => by
    simp only [List.mem_cons, List.not_mem_nil, or_false] at hf
    rcases hf with rfl | rfl | rfl | rfl | rfl | rfl <;> dsimp only <;> omega)
   refine ⟨(HS1.get 5 rfl).cell, fun hHeld => ?_⟩
   have HSF := hd_ HS1
   clear hHeld HS1 HS
   refine AnyT.done (by kernel_rfl) ?_ _
   go_wp2_with fail
   refine bodyPost_ret (results_cell_row (P := Tryz.prog) rfl _ _ (w.heap.size + 1) 44 #[.int .i64 x0, .slice B1 x1.length d1, .slice B2 x2.length d2, .int .i64 x3, .int .i64 x4, .int .i64 x5, .slice B6 x6.length d6, .int .i64 x7, .int .i64 x8, .int .i64 x9, .slice B10 x10.length d10, .slice (some ⟨j11, 0, none⟩) x11.length d11, .slice B12 x12.length d12] (0, 0) _ rfl hbF Tryz.underlying44 rfl (by kernel_rfl)) rfl ⟨⟨[.int .i64 x0, .slice B1 x1.length d1, .slice B2 x2.length d2, .int .i64 x3, .int .i64 x4, .int .i64 x5, .slice B6 x6.length d6, .int .i64 x7, .int .i64 x8, .int .i64 x9, .slice B10 x10.length d10, .slice (some ⟨j11, 0, none⟩) x11.length d11, .slice B12 x12.length d12], rfl, ?_⟩, HSF.out.1⟩
   have e0 := HSF.out.get 4 rfl
   have e1 := HSF.out.get 3 rfl
   have e2 := HSF.out.get 2 rfl
   have e3 := (HSF.out.get 1 rfl).reads
   have e4 := HSF.out.get 0 rfl
   have l0 := HSF.out.le 4 rfl
   have l1 := HSF.out.le 3 rfl
   have l2 := HSF.out.le 2 rfl
   have l3 := HSF.out.le 1 rfl
   have l4 := HSF.out.le 0 rfl
   exact ⟨_, _, rfl, shDisk.R_more e0 (by omega) l0, _, _, rfl, shTop.R_more e1 (by omega) l1, _, _, rfl, shTop.R_more e2 (by omega) l2, _, _, rfl, (Sh.row 88 shSeat).R_more e3 (by omega) l3, (Sh.row 2 shI).R_more e4 (by omega) l4⟩
 ·go_simp
  have HS := hd_ ((HS.out.alloc (.cells #[] 88)).add wD.heap.size (wD.heap.size + 1) (fun W => W.ownsRow wD.heap.size 88 shSeat.k (.slice (some ⟨wD.heap.size, 0, none⟩) 0 0) 0 []) (loc_lit _ _ _) (by simp) (lit0_ownC _ _ (Nat.le_refl _)))
  have hs1 : wD.heap.size + 1 = (wD.alloc (.cells #[] 88)).heap.size := by simp
  refine hK.out _ _ (HS.out.get 2 rfl).cell (fun hHeld => ?_)
  clear hK K
  (try simp only [pz])
  have HE1 := hd_ hs1; clear hs1
  generalize (wD.alloc (.cells #[] 88)) = q1 at *
  refine oNe 2 fun K hK => ?_
  go_simp
  refine (l17Own_any (x0, x1, x2) _ lo hi _ (shCache_f0 (shCache.R_below HRp.out HS.out.1 hhi)) (Nat.le_trans hhi HS.out.1.size) hn1 hn2).mono ?_
  rintro e1 q2 ⟨⟨usx, rfl, hr⟩, hb⟩
  obtain ⟨B1, d1, B2, d2, rfl, _⟩ := shDisk_R.1 hr
  go_simp
  have hs2 := hb.size
  have HS := hd_ ((HS.out.below hb).add q1.heap.size q2.heap.size (fun W => shDisk.R W q1.heap.size q2.heap.size [.int .i64 x0, .slice B1 x1.length d1, .slice B2 x2.length d2] (x0, x1, x2)) (loc_sh _ _ _ _ _) (Nat.le_refl _) hr)
  refine hK.out _ _ (HS.out.get 3 rfl).cell (fun hHeld => ?_)
  clear hK K hr hb
  (try simp only [pz])
  refine oNe 5 fun K hK => ?_
  go_simp
  refine (l18OwnTop_any (x3, x4, x5, x6) _ lo hi _ (shCache_f3 (shCache.R_below HRp.out HS.out.1 hhi)) (Nat.le_trans hhi HS.out.1.size) hn6).mono ?_
  rintro e1 q3 ⟨⟨usx, rfl, hr⟩, hb⟩
  obtain ⟨B6, d6, rfl, _⟩ := shTop_R.1 hr
  go_simp
  have hs3 := hb.size
  have HS := hd_ ((HS.out.below hb).add q2.heap.size q3.heap.size (fun W => shTop.R W q2.heap.size q3.heap.size [.int .i64 x3, .int .i64 x4, .int .i64 x5, .slice B6 x6.length d6] (x3, x4, x5, x6)) (loc_sh _ _ _ _ _) (Nat.le_refl _) hr)
  refine hK.out _ _ (HS.out.get 4 rfl).cell (fun hHeld => ?_)
  clear hK K hr hb
  (try simp only [pz])
  refine oNe 8 fun K hK => ?_
  go_simp
  refine (l18OwnTop_any (x7, x8, x9, x10) _ lo hi _ (shCache_f7 (shCache.R_below HRp.out HS.out.1 hhi)) (Nat.le_trans hhi HS.out.1.size) hn10).mono ?_
  rintro e1 q4 ⟨⟨usx, rfl, hr⟩, hb⟩
  obtain ⟨B10, d10, rfl, _⟩ := shTop_R.1 hr
  go_simp
  have hs4 := hb.size
  have HS := hd_ ((HS.out.below hb).add q3.heap.size q4.heap.size (fun W => shTop.R W q3.heap.size q4.heap.size [.int .i64 x7, .int .i64 x8, .int .i64 x9, .slice B10 x10.length d10] (x7, x8, x9, x10)) (loc_sh _ _ _ _ _) (Nat.le_refl _) hr)
  refine hK.out _ _ (HS.out.get 5 rfl).cell (fun hHeld => ?_)
  clear hK K hr hb
  (try simp only [pz])
  refine oNe 12 fun K hK => ?_
  refine step_growRO (s := shSeat) rfl (.tmp 12) (.tmp 14) 40 rfl Tryz.underlying40 rfl (by decide) (by decide) infoSeat flatSeat _ (wD.heap.size) lo hi A11 c11 x11 rfl (HS.out.get 3 rfl) (HS.out.le 3 rfl) rfl (rowG_ofC (t := 88) (shCache_f11 (shCache.R_below HRp.out HS.out.1 hhi))) (by omega) ?_
  intro j11 d11 q5 ho hout hor hj
  have hs5 := hout.size
  have hE := HE1.out
  have HS1 := (show Stand w [(q3.heap.size, q4.heap.size, fun W => shTop.R W q3.heap.size q4.heap.size [.int .i64 x7, .int .i64 x8, .int .i64 x9, .slice B10 x10.length d10] (x7, x8, x9, x10)), (q2.heap.size, q3.heap.size, fun W => shTop.R W q2.heap.size q3.heap.size [.int .i64 x3, .int .i64 x4, .int .i64 x5, .slice B6 x6.length d6] (x3, x4, x5, x6)), (q1.heap.size, q2.heap.size, fun W => shDisk.R W q1.heap.size q2.heap.size [.int .i64 x0, .slice B1 x1.length d1, .slice B2 x2.length d2] (x0, x1, x2)), (w.heap.size + 1, w.heap.size + 1 + 1, fun W => Blk W (w.heap.size + 1) 44 zz9), (w.heap.size, w.heap.size + 1, fun W => Blk W w.heap.size 44 #[.int .i64 x0, .slice A1 x1.length c1, .slice A2 x2.length c2, .int .i64 x3, .int .i64 x4, .int .i64 x5, .slice A6 x6.length c6, .int .i64 x7, .int .i64 x8, .int .i64 x9, .slice A10 x10.length c10, .slice A11 x11.length c11, .slice A12 x12.length c12])] q4 from HS.out.only [0, 1, 2, 4, 5]).within (hout.within (lo := wD.heap.size) (hi := wD.heap.size + 1) (fun b hb => by have := List.mem_singleton.1 hb; omega)) (by have hsD := HZ.out; omega) (fun f hf => by
   have hsD := HZ.out
   simp only [List.mem_cons, List.not_mem_nil, or_false] at hf
   rcases hf with rfl | rfl | rfl | rfl | rfl <;> dsimp only <;> omega)
  have HS := hd_ (HS1.add j11 (j11 + 1) (fun W => Own (Sh.row 88 shSeat) W j11 (j11 + 1) [.slice (some ⟨j11, 0, none⟩) x11.length d11] x11) (loc_own _ _ _ _ _) hj ho)
  refine hK.out _ _ (HS.out.get 5 rfl).cell (fun hHeld => ?_)
  clear hK K ho hout HS1 hE
  (try simp only [pz])
  refine oNe 15 fun K hK => ?_
  go_simp
  refine (l00Own_any A12 c12 lo hi x12 _ (shCache_f12 (shCache.R_below HRp.out HS.out.1 hhi)) (Nat.le_trans hhi HS.out.1.size) hn12).mono ?_
  rintro e1 q6 ⟨⟨B12, d12, rfl, hr⟩, hb⟩
  have hr := hr.reads
  go_simp
  have hs6 := hb.size
  have HS := hd_ ((HS.out.below hb).add q5.heap.size q6.heap.size (fun W => (Sh.row 2 shI).R W q5.heap.size q6.heap.size [.slice B12 x12.length d12] x12) (loc_sh _ _ _ _ _) (Nat.le_refl _) hr)
  refine hK.out _ _ (HS.out.get 6 rfl).cell (fun hHeld => ?_)
  clear hK K hr hb
  (try simp only [pz])
  (refine tA 16 19 ?_; simp only [pz])
  have HONE := hd_ (show ∀ u ∈ (#[.int .i64 x0, .slice B1 x1.length d1, .slice B2 x2.length d2, .int .i64 x3, .int .i64 x4, .int .i64 x5, .slice B6 x6.length d6, .int .i64 x7, .int .i64 x8, .int .i64 x9, .slice B10 x10.length d10, .slice (some ⟨j11, 0, none⟩) x11.length d11, .slice B12 x12.length d12] : Array Value).toList, u.oneCell' = true from by
   intro u hu; simp only [List.mem_cons, List.not_mem_nil, or_false] at hu; rcases hu with rfl | rfl | rfl | rfl | rfl | rfl | rfl | rfl | rfl | rfl | rfl | rfl | rfl <;> rfl)
  refine AnyT.storeAll (i := 17) (by kernel_rfl) rfl (by kernel_rfl) 44 (.tmp 2) (.tmp 19) rfl (w.heap.size + 1) #[.int .i64 x0, .slice B1 x1.length d1, .slice B2 x2.length d2, .int .i64 x3, .int .i64 x4, .int .i64 x5, .slice B6 x6.length d6, .int .i64 x7, .int .i64 x8, .int .i64 x9, .slice B10 x10.length d10, .slice (some ⟨j11, 0, none⟩) x11.length d11, .slice B12 x12.length d12] rfl rfl (HS.out.get 5 rfl) (by kernel_rfl) rfl HONE.out ?_
  intro wF hbF hoF hzF
  have hsD := HZ.out
  have hE := HE1.out
  have HS1 := (show Stand w [(q5.heap.size, q6.heap.size, fun W => (Sh.row 2 shI).R W q5.heap.size q6.heap.size [.slice B12 x12.length d12] x12), (j11, j11 + 1, fun W => Own (Sh.row 88 shSeat) W j11 (j11 + 1) [.slice (some ⟨j11, 0, none⟩) x11.length d11] x11), (q3.heap.size, q4.heap.size, fun W => shTop.R W q3.heap.size q4.heap.size [.int .i64 x7, .int .i64 x8, .int .i64 x9, .slice B10 x10.length d10] (x7, x8, x9, x10)), (q2.heap.size, q3.heap.size, fun W => shTop.R W q2.heap.size q3.heap.size [.int .i64 x3, .int .i64 x4, .int .i64 x5, .slice B6 x6.length d6] (x3, x4, x5, x6)), (q1.heap.size, q2.heap.size, fun W => shDisk.R W q1.heap.size q2.heap.size [.int .i64 x0, .slice B1 x1.length d1, .slice B2 x2.length d2] (x0, x1, x2)), (w.heap.size, w.heap.size + 1, fun W => Blk W w.heap.size 44 #[.int .i64 x0, .slice A1 x1.length c1, .slice A2 x2.length c2, .int .i64 x3, .int .i64 x4, .int .i64 x5, .slice A6 x6.length c6, .int .i64 x7, .int .i64 x8, .int .i64 x9, .slice A10 x10.length c10, .slice A11 x11.length c11, .slice A12 x12.length c12])] q6 from HS.out.only [0, 1, 2, 3, 4, 6]).within (hoF.within (lo := w.heap.size + 1) (hi := w.heap.size + 1 + 1) (fun b hb => by have := List.mem_singleton.1 hb; omega)) (by omega) (fun f hf => by
   simp only [List.mem_cons, List.not_mem_nil, or_false] at hf
   rcases hf with rfl | rfl | rfl | rfl | rfl | rfl <;> dsimp only <;> omega)
  refine ⟨(HS1.get 5 rfl).cell, fun hHeld => ?_⟩
  have HSF := hd_ HS1
  clear hHeld HS1 HS
  refine AnyT.done (by kernel_rfl) ?_ _
  go_wp2_with fail
  refine bodyPost_ret (results_cell_row (P := Tryz.prog) rfl _ _ (w.heap.size + 1) 44 #[.int .i64 x0, .slice B1 x1.length d1, .slice B2 x2.length d2, .int .i64 x3, .int .i64 x4, .int .i64 x5, .slice B6 x6.length d6, .int .i64 x7, .int .i64 x8, .int .i64 x9, .slice B10 x10.length d10, .slice (some ⟨j11, 0, none⟩) x11.length d11, .slice B12 x12.length d12] (0, 0) _ rfl hbF Tryz.underlying44 rfl (by kernel_rfl)) rfl ⟨⟨[.int .i64 x0, .slice B1 x1.length d1, .slice B2 x2.length d2, .int .i64 x3, .int .i64 x4, .int .i64 x5, .slice B6 x6.length d6, .int .i64 x7, .int .i64 x8, .int .i64 x9, .slice B10 x10.length d10, .slice (some ⟨j11, 0, none⟩) x11.length d11, .slice B12 x12.length d12], rfl, ?_⟩, HSF.out.1⟩
  have e0 := HSF.out.get 4 rfl
  have e1 := HSF.out.get 3 rfl
  have e2 := HSF.out.get 2 rfl
  have e3 := (HSF.out.get 1 rfl).reads
  have e4 := HSF.out.get 0 rfl
  have l0 := HSF.out.le 4 rfl
  have l1 := HSF.out.le 3 rfl
  have l2 := HSF.out.le 2 rfl
  have l3 := HSF.out.le 1 rfl
  have l4 := HSF.out.le 0 rfl
  exact ⟨_, _, rfl, shDisk.R_more e0 (by omega) l0, _, _, rfl, shTop.R_more e1 (by omega) l1, _, _, rfl, shTop.R_more e2 (by omega) l2, _, _, rfl, (Sh.row 88 shSeat).R_more e3 (by omega) l3, (Sh.row 2 shI).R_more e4 (by omega) l4⟩
end Go.Proofs.YtnnabkldceklmaaGreatDoor
