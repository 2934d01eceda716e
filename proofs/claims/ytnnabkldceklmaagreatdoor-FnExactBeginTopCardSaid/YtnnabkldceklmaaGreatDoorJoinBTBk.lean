/- The reference's l17Own walked: a disk copied. -/
import Derived.Test.YtnnabkldceklmaaGreatDoorJoinBTBh
set_option maxHeartbeats 16000000
set_option maxRecDepth 100000
namespace Go.Proofs.YtnnabkldceklmaaGreatDoor
open Go.RowKit
theorem l17Own_own (X : TyDisk) (vs : List Value) (lo hi : Nat) (w : World) (h : shDisk.R w lo hi vs X) (hhi : hi ≤ w.heap.size) (hn1 : X.2.1.length ≤ 1048576) (hn2 : X.2.2.length ≤ 1048576) :
  Calls Tryz.prog 97 #[.agg vs.toArray] w fun e w' => (∃ j1 d1 j2 d2 : Nat, e = .returned (.agg #[.int .i64 X.1, .slice (some ⟨j1, 0, none⟩) X.2.1.length d1, .slice (some ⟨j2, 0, none⟩) X.2.2.length d2]) ∧ Own (Sh.row 9 shS) w' j1 (j1 + 1) [.slice (some ⟨j1, 0, none⟩) X.2.1.length d1] X.2.1 ∧ Own (Sh.row 138 shPut) w' j2 (j2 + 1) [.slice (some ⟨j2, 0, none⟩) X.2.2.length d2] X.2.2 ∧ j1 ≠ j2 ∧ w.heap.size ≤ j1 ∧ j1 < w'.heap.size ∧ w.heap.size ≤ j2 ∧ j2 < w'.heap.size) ∧ Below w.heap.size w w' := by
 obtain ⟨x0, x1, x2⟩ := X
 obtain ⟨A1, c1, A2, c2, rfl, _⟩ := shDisk_R.1 h
 dsimp only at hn1 hn2
 have hb1 := (Below.refl w.heap.size w).alloc (Nat.le_refl _) (.cells #[.int .i64 x0, .slice A1 x1.length c1, .slice A2 x2.length c2] 39)
 have hb2 := hb1.alloc (by simp) (.cells #[.int .i64 0, .slice none 0 0, .slice none 0 0] 39)
 have hz2 : ((w.alloc (.cells #[.int .i64 x0, .slice A1 x1.length c1, .slice A2 x2.length c2] 39)).alloc (.cells #[.int .i64 0, .slice none 0 0, .slice none 0 0] 39)).heap.size = w.heap.size + 1 + 1 := by simp
 have hk1 := (Blk.new w 39 #[.int .i64 x0, .slice A1 x1.length c1, .slice A2 x2.length c2]).alloc (.cells #[.int .i64 0, .slice none 0 0, .slice none 0 0] 39)
 have hk2 : Blk ((w.alloc (.cells #[.int .i64 x0, .slice A1 x1.length c1, .slice A2 x2.length c2] 39)).alloc (.cells #[.int .i64 0, .slice none 0 0, .slice none 0 0] 39)) (w.heap.size + 1) 39 #[.int .i64 0, .slice none 0 0, .slice none 0 0] := by
  have := Blk.new (w.alloc (.cells #[.int .i64 x0, .slice A1 x1.length c1, .slice A2 x2.length c2] 39)) 39 #[.int .i64 0, .slice none 0 0, .slice none 0 0]
  rw [heap_alloc_size1] at this
  exact this
 go_enter Tryz.func97, Tryz.ntmps97
 go_upto_region 1 with fail
 generalize ((w.alloc (.cells #[.int .i64 x0, .slice A1 x1.length c1, .slice A2 x2.length c2] 39)).alloc (.cells #[.int .i64 0, .slice none 0 0, .slice none 0 0] 39)) = w2 at *
 have HZ := hd_ (show w2.drew.heap.size = w.heap.size + 1 + 1 from hz2)
 have HBD := hd_ (show Below w.heap.size w w2.drew from hb2.drew)
 have HK1 := hd_ (show Blk w2.drew _ _ _ from hk1.drewN 1)
 have HK2 := hd_ (show Blk w2.drew _ _ _ from hk2.drewN 1)
 have HR0 := hd_ (shDisk.R_below h HBD.out hhi)
 clear hb1 hb2 hz2 hk1 hk2 h
 refine AnyT.region (fun _ => false) (fun W => ∀ i, W.cell? ⟨w.heap.size, i, none⟩ = (#[.int .i64 x0, .slice A1 x1.length c1, .slice A2 x2.length c2] : Array Value)[i]?) (by kernel_rfl) HK1.out.cell (fun hHeld => ?_)
 have HB0 := hd_ (Below.refl (w.heap.size + 1 + 1) w2.drew)
 generalize w2.drew = wD at *
 have HSS := hd_ (show ∀ W, Below (w.heap.size + 1 + 1) wD W → ∀ i, W.cell? ⟨w.heap.size, i, none⟩ = (#[.int .i64 x0, .slice A1 x1.length c1, .slice A2 x2.length c2] : Array Value)[i]? from fun W hW => (HK1.out.below hW (by omega)).cell)
 have HRR1 := hd_ (show ∀ W, Below (w.heap.size + 1 + 1) wD W → RowG shS W lo hi A1 x1 from fun W hW => rowG_ofC (c := c1) (t := 9) ((Sh.row 9 shS).R_below (shDisk_f1 HR0.out) hW (by omega)))
 have HRR2 := hd_ (show ∀ W, Below (w.heap.size + 1 + 1) wD W → RowG shPut W lo hi A2 x2 from fun W hW => rowG_ofC (c := c2) (t := 138) ((Sh.row 138 shPut).R_below (shDisk_f2 HR0.out) hW (by omega)))
 (refine tA 0 3 ?_; simp only [pz])
 (refine tK 1 4 ?_; simp only [pz])
 (refine tA 3 6 ?_; simp only [pz])
 (refine tK 4 7 ?_; simp only [pz])
 (refine tA 7 10 ?_; simp only [pz])
 (refine tK 8 11 ?_; simp only [pz])
 refine AnyT.either (i := 2) (j := 6) (by kernel_rfl) rfl rfl (fun K hK => ?_) (fun K hK => ?_)
 ·go_simp
  have HL1 := hd_ (lit0_ownC (t := 9) (k := shS.k) wD wD.heap.size (Nat.le_refl _))
  have hl1 : wD.heap.size < (wD.alloc (.cells #[] 9)).heap.size := by simp
  have hm1 : w.heap.size + 1 + 1 ≤ wD.heap.size := by
   have h1 := HZ.out
   have h2 := HB0.out.size
   omega
  have HC1 := hd_ (HB0.out.alloc (by omega) (.cells #[] 9))
  refine hK.out _ _ (HSS.out _ HC1.out) (fun hHeld => ?_)
  clear hK K
  (try simp only [pz])
  generalize (wD.alloc (.cells #[] 9)) = q1 at *
  generalize hgD : wD.heap.size = g1 at *
  refine AnyT.either (i := 5) (j := 6) (by kernel_rfl) rfl rfl (fun K hK => ?_) (fun K hK => ?_)
  ·refine step_growRO (s := shS) rfl (.tmp 5) (.tmp 7) 22 rfl Tryz.underlying22 rfl (by decide) (by decide) infoString flatStrC q1 g1 lo hi A1 c1 x1 rfl HL1.out hl1 rfl (HRR1.out _ HC1.out) (by omega) ?_
   intro j1 d1 q2 ho hout hor hj1
   have HC2 := hd_ (HC1.out.trans (hout.below1 hm1 (by omega)))
   refine hK.out _ _ (HSS.out _ HC2.out) (fun hHeld => ?_)
   clear hK K
   (try simp only [pz])
   have HO1 := hd_ ho
   have hmj1 : w.heap.size + 1 + 1 ≤ j1 := by omega
   have hsz2 := hout.size
   clear ho hor
   refine oNe 6 fun K hK => ?_
   go_simp
   have HL2 := hd_ (lit0_ownC (t := 138) (k := shPut.k) q2 q2.heap.size (Nat.le_refl _))
   have hl2 : q2.heap.size < (q2.alloc (.cells #[] 138)).heap.size := by simp
   have hm2 : w.heap.size + 1 + 1 ≤ q2.heap.size := by
    have h1 := HZ.out
    have h2 := HC2.out.size
    omega
   have HC3 := hd_ (HC2.out.alloc (by omega) (.cells #[] 138))
   refine hK.out _ _ (HSS.out _ HC3.out) (fun hHeld => ?_)
   clear hK K
   (try simp only [pz])
   have hd12 : g1 ≠ q2.heap.size := by omega
   have hd12 : j1 ≠ q2.heap.size := by omega
   replace HL1 := hd_ (HL1.out.alloc (.cells #[] 138))
   replace hl1 : g1 < (q2.alloc (.cells #[] 138)).heap.size := by simp; omega
   replace HO1 := hd_ (HO1.out.below ((Below.refl q2.heap.size q2).alloc (Nat.le_refl _) (.cells #[] 138)) (by omega))
   replace hj1 : j1 < (q2.alloc (.cells #[] 138)).heap.size := by simp; omega
   generalize (q2.alloc (.cells #[] 138)) = q3 at *
   generalize q2.heap.size = g2 at *
   refine oNe 9 fun K hK => ?_
   refine step_growRO (s := shPut) rfl (.tmp 9) (.tmp 11) 37 rfl Tryz.underlying37 rfl (by decide) (by decide) infoPut flatPut q3 g2 lo hi A2 c2 x2 rfl HL2.out hl2 rfl (HRR2.out _ HC3.out) (by omega) ?_
   intro j2 d2 q4 ho hout hor hj2
   have HC4 := hd_ (HC3.out.trans (hout.below1 hm2 (by omega)))
   have hjj : j1 ≠ j2 := by omega
   refine hK.out _ _ (HSS.out _ HC4.out) (fun hHeld => ?_)
   clear hK K
   (try simp only [pz])
   have HO2 := hd_ ho
   have hmj2 : w.heap.size + 1 + 1 ≤ j2 := by omega
   have hsz4 := hout.size
   replace HO1 := hd_ (HO1.out.keepOut hout (fun b hb => by have := List.mem_singleton.1 hb; omega))
   replace hj1 : j1 < q4.heap.size := by omega
   clear ho hor
   (refine tA 10 13 ?_; simp only [pz])
   have hk2 := HK2.out.below HC4.out (by omega)
   have HONE := hd_ (show ∀ u ∈ (#[.int .i64 x0, .slice (some ⟨j1, 0, none⟩) x1.length d1, .slice (some ⟨j2, 0, none⟩) x2.length d2] : Array Value).toList, u.oneCell' = true from by
    intro u hu; simp only [List.mem_cons, List.not_mem_nil, or_false] at hu; rcases hu with rfl | rfl | rfl <;> rfl)
   refine AnyT.storeAll (i := 11) (by kernel_rfl) rfl (by kernel_rfl) 39 (.tmp 2) (.tmp 13) rfl (w.heap.size + 1) #[.int .i64 x0, .slice (some ⟨j1, 0, none⟩) x1.length d1, .slice (some ⟨j2, 0, none⟩) x2.length d2] rfl rfl hk2 (by kernel_rfl) rfl HONE.out ?_
   intro wF hbF hoF hzF
   refine ⟨((HK1.out.below HC4.out (by omega)).outOf hoF (by omega)).cell, fun hHeld => ?_⟩
   have HF1 := hd_ (HO1.out.keepOut hoF (fun b hb => by have := List.mem_singleton.1 hb; omega))
   have HF2 := hd_ (HO2.out.keepOut hoF (fun b hb => by have := List.mem_singleton.1 hb; omega))
   have hBF : Below w.heap.size w wF := (HBD.out.trans (HC4.out.mono (by omega))).trans (hoF.below1 (by omega) (by have := (HBD.out.trans (HC4.out.mono (by omega : w.heap.size ≤ w.heap.size + 1 + 1))).size; omega))
   clear hHeld
   refine AnyT.done (by kernel_rfl) ?_ _
   go_wp2_with fail
   refine bodyPost_ret (results_cell_row (P := Tryz.prog) rfl _ _ (w.heap.size + 1) 39 #[.int .i64 x0, .slice (some ⟨j1, 0, none⟩) x1.length d1, .slice (some ⟨j2, 0, none⟩) x2.length d2] (0, 0) _ rfl hbF Tryz.underlying39 rfl (by kernel_rfl)) rfl ⟨⟨j1, d1, j2, d2, rfl, HF1.out, HF2.out, hjj, by omega, by omega, by omega, by omega⟩, hBF⟩
  ·go_simp
   have HL2 := hd_ (lit0_ownC (t := 138) (k := shPut.k) q1 q1.heap.size (Nat.le_refl _))
   have hl2 : q1.heap.size < (q1.alloc (.cells #[] 138)).heap.size := by simp
   have hm2 : w.heap.size + 1 + 1 ≤ q1.heap.size := by
    have h1 := HZ.out
    have h2 := HC1.out.size
    omega
   have HC2 := hd_ (HC1.out.alloc (by omega) (.cells #[] 138))
   refine hK.out _ _ (HSS.out _ HC2.out) (fun hHeld => ?_)
   clear hK K
   (try simp only [pz])
   have hd12 : g1 ≠ q1.heap.size := by omega
   replace HL1 := hd_ (HL1.out.alloc (.cells #[] 138))
   replace hl1 : g1 < (q1.alloc (.cells #[] 138)).heap.size := by simp; omega
   generalize (q1.alloc (.cells #[] 138)) = q2 at *
   generalize q1.heap.size = g2 at *
   refine oNe 5 fun K hK => ?_
   refine step_growRO (s := shS) rfl (.tmp 5) (.tmp 7) 22 rfl Tryz.underlying22 rfl (by decide) (by decide) infoString flatStrC q2 g1 lo hi A1 c1 x1 rfl HL1.out hl1 rfl (HRR1.out _ HC2.out) (by omega) ?_
   intro j1 d1 q3 ho hout hor hj1
   have HC3 := hd_ (HC2.out.trans (hout.below1 hm1 (by omega)))
   refine hK.out _ _ (HSS.out _ HC3.out) (fun hHeld => ?_)
   clear hK K
   (try simp only [pz])
   have HO1 := hd_ ho
   have hmj1 : w.heap.size + 1 + 1 ≤ j1 := by omega
   have hsz3 := hout.size
   have hd12 : j1 ≠ g2 := by omega
   replace HL2 := hd_ (own_same HL2.out fun g hg => hout.block g (by cases hg; omega) (by cases hg; simp; omega))
   replace hl2 : g2 < q3.heap.size := by omega
   clear ho hor
   refine oNe 9 fun K hK => ?_
   refine step_growRO (s := shPut) rfl (.tmp 9) (.tmp 11) 37 rfl Tryz.underlying37 rfl (by decide) (by decide) infoPut flatPut q3 g2 lo hi A2 c2 x2 rfl HL2.out hl2 rfl (HRR2.out _ HC3.out) (by omega) ?_
   intro j2 d2 q4 ho hout hor hj2
   have HC4 := hd_ (HC3.out.trans (hout.below1 hm2 (by omega)))
   have hjj : j1 ≠ j2 := by omega
   refine hK.out _ _ (HSS.out _ HC4.out) (fun hHeld => ?_)
   clear hK K
   (try simp only [pz])
   have HO2 := hd_ ho
   have hmj2 : w.heap.size + 1 + 1 ≤ j2 := by omega
   have hsz4 := hout.size
   replace HO1 := hd_ (HO1.out.keepOut hout (fun b hb => by have := List.mem_singleton.1 hb; omega))
   replace hj1 : j1 < q4.heap.size := by omega
   clear ho hor
   (refine tA 10 13 ?_; simp only [pz])
   have hk2 := HK2.out.below HC4.out (by omega)
   have HONE := hd_ (show ∀ u ∈ (#[.int .i64 x0, .slice (some ⟨j1, 0, none⟩) x1.length d1, .slice (some ⟨j2, 0, none⟩) x2.length d2] : Array Value).toList, u.oneCell' = true from by
    intro u hu; simp only [List.mem_cons, List.not_mem_nil, or_false] at hu; rcases hu with rfl | rfl | rfl <;> rfl)
   refine AnyT.storeAll (i := 11) (by kernel_rfl) rfl (by kernel_rfl) 39 (.tmp 2) (.tmp 13) rfl (w.heap.size + 1) #[.int .i64 x0, .slice (some ⟨j1, 0, none⟩) x1.length d1, .slice (some ⟨j2, 0, none⟩) x2.length d2] rfl rfl hk2 (by kernel_rfl) rfl HONE.out ?_
   intro wF hbF hoF hzF
   refine ⟨((HK1.out.below HC4.out (by omega)).outOf hoF (by omega)).cell, fun hHeld => ?_⟩
   have HF1 := hd_ (HO1.out.keepOut hoF (fun b hb => by have := List.mem_singleton.1 hb; omega))
   have HF2 := hd_ (HO2.out.keepOut hoF (fun b hb => by have := List.mem_singleton.1 hb; omega))
   have hBF : Below w.heap.size w wF := (HBD.out.trans (HC4.out.mono (by omega))).trans (hoF.below1 (by omega) (by have := (HBD.out.trans (HC4.out.mono (by omega : w.heap.size ≤ w.heap.size + 1 + 1))).size; omega))
   clear hHeld
   refine AnyT.done (by kernel_rfl) ?_ _
   go_wp2_with fail
   refine bodyPost_ret (results_cell_row (P := Tryz.prog) rfl _ _ (w.heap.size + 1) 39 #[.int .i64 x0, .slice (some ⟨j1, 0, none⟩) x1.length d1, .slice (some ⟨j2, 0, none⟩) x2.length d2] (0, 0) _ rfl hbF Tryz.underlying39 rfl (by kernel_rfl)) rfl ⟨⟨j1, d1, j2, d2, rfl, HF1.out, HF2.out, hjj, by omega, by omega, by omega, by omega⟩, hBF⟩
 ·go_simp
  have HL2 := hd_ (lit0_ownC (t := 138) (k := shPut.k) wD wD.heap.size (Nat.le_refl _))
  have hl2 : wD.heap.size < (wD.alloc (.cells #[] 138)).heap.size := by simp
  have hm2 : w.heap.size + 1 + 1 ≤ wD.heap.size := by
   have h1 := HZ.out
   have h2 := HB0.out.size
   omega
  have HC1 := hd_ (HB0.out.alloc (by omega) (.cells #[] 138))
  refine hK.out _ _ (HSS.out _ HC1.out) (fun hHeld => ?_)
  clear hK K
  (try simp only [pz])
  generalize (wD.alloc (.cells #[] 138)) = q1 at *
  generalize hgD : wD.heap.size = g2 at *
  refine oNe 2 fun K hK => ?_
  go_simp
  have HL1 := hd_ (lit0_ownC (t := 9) (k := shS.k) q1 q1.heap.size (Nat.le_refl _))
  have hl1 : q1.heap.size < (q1.alloc (.cells #[] 9)).heap.size := by simp
  have hm1 : w.heap.size + 1 + 1 ≤ q1.heap.size := by
   have h1 := HZ.out
   have h2 := HC1.out.size
   omega
  have HC2 := hd_ (HC1.out.alloc (by omega) (.cells #[] 9))
  refine hK.out _ _ (HSS.out _ HC2.out) (fun hHeld => ?_)
  clear hK K
  (try simp only [pz])
  have hd21 : g2 ≠ q1.heap.size := by omega
  replace HL2 := hd_ (HL2.out.alloc (.cells #[] 9))
  replace hl2 : g2 < (q1.alloc (.cells #[] 9)).heap.size := by simp; omega
  generalize (q1.alloc (.cells #[] 9)) = q2 at *
  generalize q1.heap.size = g1 at *
  refine oNe 5 fun K hK => ?_
  refine step_growRO (s := shS) rfl (.tmp 5) (.tmp 7) 22 rfl Tryz.underlying22 rfl (by decide) (by decide) infoString flatStrC q2 g1 lo hi A1 c1 x1 rfl HL1.out hl1 rfl (HRR1.out _ HC2.out) (by omega) ?_
  intro j1 d1 q3 ho hout hor hj1
  have HC3 := hd_ (HC2.out.trans (hout.below1 hm1 (by omega)))
  refine hK.out _ _ (HSS.out _ HC3.out) (fun hHeld => ?_)
  clear hK K
  (try simp only [pz])
  have HO1 := hd_ ho
  have hmj1 : w.heap.size + 1 + 1 ≤ j1 := by omega
  have hsz3 := hout.size
  have hd12 : j1 ≠ g2 := by omega
  replace HL2 := hd_ (own_same HL2.out fun g hg => hout.block g (by cases hg; omega) (by cases hg; simp; omega))
  replace hl2 : g2 < q3.heap.size := by omega
  clear ho hor
  refine oNe 9 fun K hK => ?_
  refine step_growRO (s := shPut) rfl (.tmp 9) (.tmp 11) 37 rfl Tryz.underlying37 rfl (by decide) (by decide) infoPut flatPut q3 g2 lo hi A2 c2 x2 rfl HL2.out hl2 rfl (HRR2.out _ HC3.out) (by omega) ?_
  intro j2 d2 q4 ho hout hor hj2
  have HC4 := hd_ (HC3.out.trans (hout.below1 hm2 (by omega)))
  have hjj : j1 ≠ j2 := by omega
  refine hK.out _ _ (HSS.out _ HC4.out) (fun hHeld => ?_)
  clear hK K
  (try simp only [pz])
  have HO2 := hd_ ho
  have hmj2 : w.heap.size + 1 + 1 ≤ j2 := by omega
  have hsz4 := hout.size
  replace HO1 := hd_ (HO1.out.keepOut hout (fun b hb => by have := List.mem_singleton.1 hb; omega))
  replace hj1 : j1 < q4.heap.size := by omega
  clear ho hor
  (refine tA 10 13 ?_; simp only [pz])
  have hk2 := HK2.out.below HC4.out (by omega)
  have HONE := hd_ (show ∀ u ∈ (#[.int .i64 x0, .slice (some ⟨j1, 0, none⟩) x1.length d1, .slice (some ⟨j2, 0, none⟩) x2.length d2] : Array Value).toList, u.oneCell' = true from by
   intro u hu; simp only [List.mem_cons, List.not_mem_nil, or_false] at hu; rcases hu with rfl | rfl | rfl <;> rfl)
  refine AnyT.storeAll (i := 11) (by kernel_rfl) rfl (by kernel_rfl) 39 (.tmp 2) (.tmp 13) rfl (w.heap.size + 1) #[.int .i64 x0, .slice (some ⟨j1, 0, none⟩) x1.length d1, .slice (some ⟨j2, 0, none⟩) x2.length d2] rfl rfl hk2 (by kernel_rfl) rfl HONE.out ?_
  intro wF hbF hoF hzF
  refine ⟨((HK1.out.below HC4.out (by omega)).outOf hoF (by omega)).cell, fun hHeld => ?_⟩
  have HF1 := hd_ (HO1.out.keepOut hoF (fun b hb => by have := List.mem_singleton.1 hb; omega))
  have HF2 := hd_ (HO2.out.keepOut hoF (fun b hb => by have := List.mem_singleton.1 hb; omega))
  have hBF : Below w.heap.size w wF := (HBD.out.trans (HC4.out.mono (by omega))).trans (hoF.below1 (by omega) (by have := (HBD.out.trans (HC4.out.mono (by omega : w.heap.size ≤ w.heap.size + 1 + 1))).size; omega))
  clear hHeld
  refine AnyT.done (by kernel_rfl) ?_ _
  go_wp2_with fail
  refine bodyPost_ret (results_cell_row (P := Tryz.prog) rfl _ _ (w.heap.size + 1) 39 #[.int .i64 x0, .slice (some ⟨j1, 0, none⟩) x1.length d1, .slice (some ⟨j2, 0, none⟩) x2.length d2] (0, 0) _ rfl hbF Tryz.underlying39 rfl (by kernel_rfl)) rfl ⟨⟨j1, d1, j2, d2, rfl, HF1.out, HF2.out, hjj, by omega, by omega, by omega, by omega⟩, hBF⟩
theorem l17Own_any (X : TyDisk) (vs : List Value) (lo hi : Nat) (w : World) (h : shDisk.R w lo hi vs X) (hhi : hi ≤ w.heap.size) (hn1 : X.2.1.length ≤ 1048576) (hn2 : X.2.2.length ≤ 1048576) :
  Calls Tryz.prog 97 #[.agg vs.toArray] w fun e w' => (∃ us : List Value, e = .returned (.agg us.toArray) ∧ shDisk.R w' w.heap.size w'.heap.size us X) ∧ Below w.heap.size w w' := by
 refine (l17Own_own X vs lo hi w h hhi hn1 hn2).mono ?_
 rintro e w' ⟨⟨j1, d1, j2, d2, rfl, ho1, ho2, _, h1, h2, h3, h4⟩, hb⟩
 obtain ⟨x0, x1, x2⟩ := X
 refine ⟨⟨[.int .i64 x0, .slice (some ⟨j1, 0, none⟩) x1.length d1, .slice (some ⟨j2, 0, none⟩) x2.length d2], rfl, ?_⟩, hb⟩
 refine shDisk_R.2 ⟨_, d1, _, d2, rfl, rowG_ofC (t := 9) (c := d1) ?_, rowG_ofC (t := 138) (c := d2) ?_⟩
 ·exact (ho1.more h1 (by omega)).reads
 ·exact (ho2.more h3 (by omega)).reads
end Go.Proofs.YtnnabkldceklmaaGreatDoor
/- What the program's walker holds: pages by their ids, what has been met, the depth of the leaves. -/
namespace Go.Proofs.YtnnabkldceklmaaGreatDoor
open Go.RowKit
def PgB (W : World) (lo hi g : Nat) (p : TyPage) : Prop := (lo ≤ g ∧ g < hi) ∧ ∃ vs : List Value, Blk W g 83 vs.toArray ∧ shPage.R W lo hi vs p
def pgEs (l : List TySlot) (pb : Nat → Nat) (k : Nat) : List (Int × Value) := (List.range k).map fun j => ((l.getD j shSlot.d).1, Value.pointer (some ⟨pb j, 0, none⟩))
def PgsI (W : World) (lo hi gp gb : Nat) (root : Int) (l : List TySlot) (k : Nat) : Prop :=
 (lo ≤ gp ∧ gp < hi) ∧ (lo ≤ gb ∧ gb < gp) ∧ Blk W gp 199 #[.int .i64 root, .map (some gb)] ∧ ∃ pb : Nat → Nat, MapB W gb (pgEs l pb k) ∧ ∀ j, j < k → PgB W (gp + 1) hi (pb j) (l.getD j shSlot.d).2
theorem PgB.keep {W W' : World} {lo hi g : Nat} {p : TyPage} (h : PgB W lo hi g p) (hk : ∀ b, lo ≤ b → b < hi → W'.heap[b]? = W.heap[b]?) : PgB W' lo hi g p := by
 obtain ⟨hg, vs, hb, hr⟩ := h
 exact ⟨hg, vs, (hk g hg.1 hg.2).trans hb, shPage.R_keep hr hk⟩
theorem PgB.more {W : World} {lo hi hi' g : Nat} {p : TyPage} (h : PgB W lo hi g p) (hh : hi ≤ hi') : PgB W lo hi' g p := by
 obtain ⟨hg, vs, hb, hr⟩ := h
 exact ⟨⟨hg.1, by omega⟩, vs, hb, shPage.R_more hr (Nat.le_refl _) hh⟩
theorem PgsI.keep {W W' : World} {lo hi gp gb : Nat} {root : Int} {l : List TySlot} {k : Nat} (h : PgsI W lo hi gp gb root l k) (hk : ∀ b, lo ≤ b → b < hi → W'.heap[b]? = W.heap[b]?) : PgsI W' lo hi gp gb root l k := by
 obtain ⟨h1, h2, h3, pb, h4, h5⟩ := h
 exact ⟨h1, h2, (hk gp h1.1 h1.2).trans h3, pb, h4.same (hk gb h2.1 (by omega)), fun j hj => (h5 j hj).keep fun b hb1 hb2 => hk b (by omega) hb2⟩
theorem PgsI.more {W : World} {lo hi hi' gp gb : Nat} {root : Int} {l : List TySlot} {k : Nat} (h : PgsI W lo hi gp gb root l k) (hh : hi ≤ hi') : PgsI W lo hi' gp gb root l k := by
 obtain ⟨h1, h2, h3, pb, h4, h5⟩ := h
 exact ⟨⟨h1.1, by omega⟩, h2, h3, pb, h4, fun j hj => (h5 j hj).more hh⟩
theorem PgsI.below {W W' : World} {lo hi gp gb B : Nat} {root : Int} {l : List TySlot} {k : Nat} (h : PgsI W lo hi gp gb root l k) (hb : Below B W W') (hB : hi ≤ B) : PgsI W' lo hi gp gb root l k := h.keep fun b _ h2 => hb.block b (by omega)
theorem PgsI.outOf {W W' : World} {lo hi gp gb : Nat} {G : List Nat} {root : Int} {l : List TySlot} {k : Nat} (h : PgsI W lo hi gp gb root l k) (ho : Out G W W') (hW : hi ≤ W.heap.size) (hG : ∀ g ∈ G, hi ≤ g) : PgsI W' lo hi gp gb root l k := h.keep fun b _ h2 => ho.block b (by omega) (fun hb => by have := hG b hb; omega)
theorem pgEs_next (l : List TySlot) (pb : Nat → Nat) (k g : Nat) : pgEs l (fun j => if j = k then g else pb j) (k + 1) = pgEs l pb k ++ [((l.getD k shSlot.d).1, .pointer (some ⟨g, 0, none⟩))] := by
 unfold pgEs
 rw [List.range_succ, List.map_append]
 congr 1
 ·refine List.map_congr_left fun j hj => ?_
  have := List.mem_range.1 hj
  show (_, Value.pointer (some ⟨if j = k then g else pb j, 0, none⟩)) = _
  rw [if_neg (by omega)]
 ·simp
theorem pgs_find (l : List TySlot) (pb : Nat → Nat) (id : Int) : (slotAt l id = none ∧ ((pgEs l pb l.length).find? fun p => p.1 == id) = none) ∨
  ∃ j, j < l.length ∧ slotAt l id = some (l.getD j shSlot.d).2 ∧ (l.getD j shSlot.d).1 = id ∧ ((pgEs l pb l.length).find? fun p => p.1 == id) = some (id, .pointer (some ⟨pb j, 0, none⟩)) := by
 have h1 : (((List.range l.length).map fun j => l.getD j shSlot.d).find? fun s => s.1 == id) = ((List.range l.length).find? fun j => (l.getD j shSlot.d).1 == id).map fun j => l.getD j shSlot.d := List.find?_map ..
 rw [show ((List.range l.length).map fun j => l.getD j shSlot.d) = l from List.ext_getElem (by simp) fun i h1 h2 => by simp [List.getD_eq_getElem?_getD, List.getElem?_eq_getElem h2]] at h1
 have h2 : ((pgEs l pb l.length).find? fun p => p.1 == id) = ((List.range l.length).find? fun j => (l.getD j shSlot.d).1 == id).map fun j => ((l.getD j shSlot.d).1, Value.pointer (some ⟨pb j, 0, none⟩)) := List.find?_map ..
 unfold slotAt
 rw [h1, h2]
 cases hf : (List.range l.length).find? (fun j => (l.getD j shSlot.d).1 == id) with
 | none => exact .inl ⟨rfl, rfl⟩
 | some j =>
  have h3 := List.mem_range.1 (List.mem_of_find?_eq_some hf)
  have h4 : (l.getD j shSlot.d).1 = id := by have := List.find?_some hf; simpa using this
  exact .inr ⟨j, h3, rfl, h4, by rw [← h4]; rfl⟩
theorem seenI (met : List Int) (id : Int) : (((met.reverse.map fun x => (x, Value.bool true)).find? fun p => p.1 == id).map (·.2)).getD (.bool false) = .bool (met.contains id) := by
 rw [List.find?_map]
 cases hf : met.reverse.find? ((fun p : Int × Value => p.1 == id) ∘ fun x => (x, Value.bool true)) with
 | none =>
  have h1 := List.find?_eq_none.1 hf
  have : met.contains id = false := by
   rw [List.contains_eq_any_beq, List.any_eq_false]
   intro x hx h2
   exact h1 x (List.mem_reverse.2 hx) (by simpa using Eq.symm (by simpa using h2))
  rw [this]; rfl
 | some x =>
  have h1 := List.mem_reverse.1 (List.mem_of_find?_eq_some hf)
  have h2 : x = id := by have := List.find?_some hf; simpa using this
  have : met.contains id = true := by rw [← h2]; simpa using h1
  rw [this]; rfl
def depJ : Option Nat → Int
 | none => -1
 | some d => d
def WkI (W : World) (b gp gs : Nat) (met : List Int) (dep : Option Nat) : Prop := Blk W b 156 #[.pointer (some ⟨gp, 0, none⟩), .map (some gs), .int .i64 (depJ dep)] ∧ MapB W gs (met.reverse.map fun x => (x, Value.bool true))
def WnP (b gp gs : Nat) (W : World) (r : Option WSt) (e : Ending) (W' : World) : Prop := Out [b, gs] W W' ∧ match r with
 | none => e = .returned (.bool false)
 | some st => e = .returned (.bool true) ∧ WkI W' b gp gs st.1 st.2
theorem WkI.below {W W' : World} {b gp gs B : Nat} {met : List Int} {dep : Option Nat} (h : WkI W b gp gs met dep) (hb : Below B W W') (h1 : b < B) (h2 : gs < B) : WkI W' b gp gs met dep := ⟨h.1.below hb h1, h.2.below hb h2⟩
theorem kidsTo_dep {f : Int → ByteArray → ByteArray → WSt → Option WSt} {B : Nat} (hf : ∀ id lo hi st st', (∀ e, st.2 = some e → e ≤ B) → f id lo hi st = some st' → ∀ e, st'.2 = some e → e ≤ B) {p : TyPage} {low high : ByteArray} : ∀ (k : Nat) (st st' : WSt), (∀ e, st.2 = some e → e ≤ B) → kidsTo f p low high k st = some st' → ∀ e, st'.2 = some e → e ≤ B
 | 0, st, st', hs, h => by
  injection h with h
  subst h
  exact hs
 | k + 1, st, st', hs, h => by
  rw [kidsTo] at h
  cases hk : kidsTo f p low high k st with
  | none => rw [hk] at h; cases h
  | some s =>
   rw [hk] at h
   exact hf _ _ _ _ _ (kidsTo_dep hf k st s hs hk) h
theorem walkP_dep (l : List TySlot) : ∀ (n d : Nat) (id : Int) (lo hi : ByteArray) (st : WSt), d + n ≤ 65 → (∀ e, st.2 = some e → e ≤ 65) → ∀ st', walkP l n d id lo hi st = some st' → ∀ e, st'.2 = some e → e ≤ 65
 | 0, _, _, _, _, _, _, _, _, h => by cases h
 | n + 1, d, id, lo, hi, st, hd, hs, st', h => by
  rw [walkP] at h
  split at h
  ·cases h
  ·split at h
   ·cases h
   ·split at h
    ·cases h
    ·split at h
     ·cases h
     ·split at h
      ·split at h
       ·injection h with h; subst h; intro e he; injection he with he; omega
       ·rename_i e0 he0
        split at h
        ·injection h with h; subst h; intro e he; injection he with he; rw [← he]; exact hs e0 he0
        ·cases h
      ·exact kidsTo_dep (fun id lo hi st st' hs h => walkP_dep l n (d + 1) id lo hi st (by omega) hs st' h) _ (id :: st.1, st.2) _ hs h
theorem slotB_eqI (l : List TySlot) (k : Nat) : slotB l k = (inB (l.getD k shSlot.d).1 1 64 && pageP (l.getD k shSlot.d).2 && (decide (k = 0) || decide ((l.getD (k - 1) (0, shPage.d)).1 < (l.getD k shSlot.d).1))) := rfl
theorem Out.belowN {G : List Nat} {w w' : World} {B : Nat} (h : Out G w w') (hB : B ≤ w.heap.size) (hG : ∀ g ∈ G, B ≤ g) : Below B w w' := ⟨h.os, h.tape, h.output, h.size, fun q hq => h.block q (by omega) (fun hg => by have := hG q hg; omega)⟩
end Go.Proofs.YtnnabkldceklmaaGreatDoor
/- The program's pagesOf and walker walked. -/
namespace Go.Proofs.YtnnabkldceklmaaGreatDoor
open Go.RowKit
theorem pagesOf_any (x0 : Int) (l : List TySlot) (A : Option Addr) (c lo hi : Nat) (w : World) (h : shBtree.R w lo hi [.int .i64 x0, .slice A l.length c] (x0, l)) (hhi : hi ≤ w.heap.size) (hok : slotsTo l l.length = true) (hf : ∀ s ∈ l, shSlot.fit 1048576 s) (hn : l.length ≤ 1048576) :
  Calls Tryz.prog 119 #[.agg #[.int .i64 x0, .slice A l.length c]] w fun e w' => ∃ gp, e = .returned (.pointer (some ⟨gp, 0, none⟩)) ∧ (∃ gb, PgsI w' w.heap.size w'.heap.size gp gb x0 l l.length) ∧ Below w.heap.size w w' := by
 have hb0 := (Below.refl w.heap.size w).alloc (Nat.le_refl _) (.cells #[.int .i64 x0, .slice A l.length c] 50)
 have hz0 : (w.alloc (.cells #[.int .i64 x0, .slice A l.length c] 50)).heap.size = w.heap.size + 1 := by simp
 have HA := hd_ ((Sh.row 85 shSlot).R_below (shBtree_f1 h) hb0 hhi)
 have HB0 := hd_ hb0
 have HH := hd_ (shBtree_f1 h)
 have HFIT := hd_ hf
 have HOK := hd_ hok
 clear h hf hok hb0
 have hmm := @run_makeMap Tryz.prog
 go_enter Tryz.func119, Tryz.ntmps119
 go_upto_region 2 with fail
 have hz2 : (((w.alloc (.cells #[.int .i64 x0, .slice A l.length c] 50)).alloc (.map #[] 0)).alloc (.cells #[.int .i64 x0, .map (some (w.heap.size + 1))] 199)).heap.size = w.heap.size + 1 + 1 + 1 := by simp
 have HP0 : Hid (PgsI (((w.alloc (.cells #[.int .i64 x0, .slice A l.length c] 50)).alloc (.map #[] 0)).alloc (.cells #[.int .i64 x0, .map (some (w.heap.size + 1))] 199)) w.heap.size (w.heap.size + 1 + 1 + 1) (w.heap.size + 1 + 1) (w.heap.size + 1) x0 l 0) := hd_ (by
  refine ⟨⟨by omega, by omega⟩, ⟨by omega, by omega⟩, ?_, fun _ => 0, ?_, fun j hj => absurd hj (Nat.not_lt_zero j)⟩
  ·have := Blk.new ((w.alloc (.cells #[.int .i64 x0, .slice A l.length c] 50)).alloc (.map #[] 0)) 199 #[.int .i64 x0, .map (some (w.heap.size + 1))]
   rw [show ((w.alloc (.cells #[.int .i64 x0, .slice A l.length c] 50)).alloc (.map #[] 0)).heap.size = w.heap.size + 1 + 1 by simp] at this
   exact this
  ·have := (MapB.new (w.alloc (.cells #[.int .i64 x0, .slice A l.length c] 50))).below ((Below.refl _ _).alloc (Nat.le_refl _) (.cells #[.int .i64 x0, .map (some (w.heap.size + 1))] 199)) (by simp)
   rw [hz0] at this
   exact this)
 have HB2 := hd_ (show Below w.heap.size w (((w.alloc (.cells #[.int .i64 x0, .slice A l.length c] 50)).alloc (.map #[] 0)).alloc (.cells #[.int .i64 x0, .map (some (w.heap.size + 1))] 199)) from (HB0.out.alloc (by omega) _).alloc (by simp; omega) _)
 have f := (((Blk.new w 50 #[.int .i64 x0, .slice A l.length c]).below ((Below.refl _ _).alloc (Nat.le_refl _) (.map #[] 0)) (by simp)).alloc (.cells #[.int .i64 x0, .map (some (w.heap.size + 1))] 199)).cell
 generalize (((w.alloc (.cells #[.int .i64 x0, .slice A l.length c] 50)).alloc (.map #[] 0)).alloc (.cells #[.int .i64 x0, .map (some (w.heap.size + 1))] 199)) = w2 at *
 go_wp2_with fail
 go_loopw [15] (fun i wr => ∃ k : Nat, k ≤ l.length ∧ i = .int .i64 k ∧ w.heap.size + 1 + 1 + 1 ≤ wr.heap.size ∧ Hid (PgsI wr w.heap.size wr.heap.size (w.heap.size + 1 + 1) (w.heap.size + 1) x0 l k) ∧ Below w.heap.size w wr) (fun i _ => l.length - (intOf i).toNat)
 case atStart => exact ⟨0, Nat.zero_le _, rfl, by omega, hd_ (by rw [hz2]; exact HP0.out), HB2.out⟩
 case round =>
  clear f HP0 HB2 HA HB0
  obtain ⟨k, hk, rfl, hszr, HP, hb⟩ := hrel
  by_cases hlt : k < l.length
  ·obtain ⟨-, b, off, rfl, hb1, hb2, A2, c2, A3, c3, A4, c4, e0, e1, e2, e3, e4, hX⟩ := shSlot_at ((Sh.row 85 shSlot).R_below HH.out hb hhi) hlt
   have hXf := HFIT.out _ (getD_in (d := shSlot.d) hlt)
   have hbw : b < wr.heap.size := by omega
   have i1 : (k : Int) < (l.length : Int) := by omega
   have HB := hd_ hb
   have HFR := hd_ (show ∀ j, j < k → (l.getD j shSlot.d).1 ≠ (l.getD k shSlot.d).1 from fun j hj => by
    have := slotsTo_less HOK.out j (k - j - 1) (by omega)
    rw [show j + (k - j - 1) + 1 = k by omega] at this
    exact fun e => by
     have e : (l.getD j (0, shPage.d)).1 = (l.getD k (0, shPage.d)).1 := e
     omega)
   have HNX := hd_ (pgEs_next l)
   have HKK := hd_ (rfl : l.getD k shSlot.d = l.getD k shSlot.d)
   obtain ⟨Y, hY⟩ : ∃ Y, Y = l.getD k shSlot.d := ⟨_, rfl⟩
   rw [← hY] at e0 e1 e2 e3 e4 hX hXf HFR
   obtain ⟨y, p0, p1, p2, p3⟩ := Y
   have HY := hd_ hY
   clear hb hY HKK
   dsimp only at e0 e1 e2 e3 e4 hX hXf
   have HX := hd_ (shSlot_f1 hX)
   have HXF := hd_ ((shSlot_fit y p0 p1 p2 p3).1 hXf).2
   have HBA := hd_ ((Below.refl wr.heap.size wr).alloc (Nat.le_refl _) (.cells #[.int .i64 y, .bool p0, .slice A2 p1.length c2, .slice A3 p2.length c3, .slice A4 p3.length c4] 85))
   have HKA := hd_ (Blk.new wr 85 #[.int .i64 y, .bool p0, .slice A2 p1.length c2, .slice A3 p2.length c3, .slice A4 p3.length c4])
   have hzA : (wr.alloc (.cells #[.int .i64 y, .bool p0, .slice A2 p1.length c2, .slice A3 p2.length c3, .slice A4 p3.length c4] 85)).heap.size = wr.heap.size + 1 := by simp
   clear hX hXf
   go_upto_region 5 with fail
   clear e0 e1 e2 e3 e4
   generalize (wr.alloc (.cells #[.int .i64 y, .bool p0, .slice A2 p1.length c2, .slice A3 p2.length c3, .slice A4 p3.length c4] 85)) = wA at *
   have hwr : w.heap.size ≤ wr.heap.size := by omega
   have HCP := hd_ (copyPage_f p0 p1 p2 p3 A2 c2 A3 c3 A4 c4 lo hi wA (shPage.R_below HX.out HBA.out (by omega)) (by omega) HXF.out)
   have fA := HKA.out.cell
   go_wp2_with fail
   refine HCP.out.mono ?_; rintro e1 wC ⟨B1, d1, B2, d2, B3, d3, rfl, hO, hbC⟩
   have hszC := hbC.size
   have HBC := hd_ (show Below wr.heap.size wr wC from HBA.out.trans (hbC.mono (by omega)))
   have HRC := hd_ hO.reads
   have fC := (HKA.out.below hbC (by omega)).cell
   have HBD := hd_ ((Below.refl wC.heap.size wC).alloc (Nat.le_refl _) (.cells #[.bool p0, .slice B1 p1.length d1, .slice B2 p2.length d2, .slice B3 p3.length d3] 83))
   have HKD := hd_ (Blk.new wC 83 #[.bool p0, .slice B1 p1.length d1, .slice B2 p2.length d2, .slice B3 p3.length d3])
   have hzD : (wC.alloc (.cells #[.bool p0, .slice B1 p1.length d1, .slice B2 p2.length d2, .slice B3 p3.length d3] 83)).heap.size = wC.heap.size + 1 := by simp
   have fD : ∀ i, (wC.alloc (.cells #[.bool p0, .slice B1 p1.length d1, .slice B2 p2.length d2, .slice B3 p3.length d3] 83)).cell? ⟨wr.heap.size, i, none⟩ = (#[.int .i64 y, .bool p0, .slice A2 p1.length c2, .slice A3 p2.length c3, .slice A4 p3.length c4] : Array Value)[i]? := ((HKA.out.below hbC (by omega)).alloc _).cell
   clear fA hO hbC HCP
   go_upto_region 6 with fail
   clear fC
   have HBWD := hd_ (show Below wr.heap.size wr (wC.alloc (.cells #[.bool p0, .slice B1 p1.length d1, .slice B2 p2.length d2, .slice B3 p3.length d3] 83)).drew from (HBC.out.trans (HBD.out.mono (by omega))).drew)
   have HKD := hd_ (show Blk (wC.alloc (.cells #[.bool p0, .slice B1 p1.length d1, .slice B2 p2.length d2, .slice B3 p3.length d3] 83)).drew wC.heap.size 83 _ from HKD.out.drewN 1)
   have hzD : (wC.alloc (.cells #[.bool p0, .slice B1 p1.length d1, .slice B2 p2.length d2, .slice B3 p3.length d3] 83)).drew.heap.size = wC.heap.size + 1 := hzD
   have HRD := hd_ (shPage.R_below HRC.out HBD.out.drew (Nat.le_refl _))
   have hpd := HP.out.below HBWD.out (Nat.le_refl _)
   obtain ⟨hgp1, hgb1, hgp, pb, hm, hpg⟩ := hpd
   have hgc := hgp.cell
   have HGP := hd_ hgp
   have HPG := hd_ hpg
   refine AnyT.region (fun _ => false) (fun W => (∀ i, W.cell? ⟨w.heap.size + 1 + 1, i, none⟩ = (#[.int .i64 x0, .map (some (w.heap.size + 1))] : Array Value)[i]?) ∧ ∀ i, W.cell? ⟨wr.heap.size, i, none⟩ = (#[.int .i64 y, .bool p0, .slice A2 p1.length c2, .slice A3 p2.length c3, .slice A4 p3.length c4] : Array Value)[i]?) (by kernel_rfl) ⟨hgc, fD⟩ (fun hHeld => ?_)
   clear hgp hpg fD hgc HBD
   generalize (wC.alloc (.cells #[.bool p0, .slice B1 p1.length d1, .slice B2 p2.length d2, .slice B3 p3.length d3] 83)).drew = wD at *
   obtain ⟨w4, hup, hm4, ho4, hs4⟩ := map_put (T := 197) Tryz.underlying197 Tryz.underlying2 hm y (.pointer (some ⟨wC.heap.size, 0, none⟩)) (fun p hp => by
    obtain ⟨j, hj, rfl⟩ := List.mem_map.1 hp
    exact HFR.out j (List.mem_range.1 hj))
   (refine tA 0 22 ?_; simp only [pz])
   (refine tA 1 23 ?_; simp only [pz])
   (refine tA 2 24 ?_; simp only [pz])
   (refine tK 3 25 ?_; simp only [pz])
   (refine tA 4 26 ?_; simp only [pz])
   (refine tK 5 27 ?_; simp only [pz])
   refine oNe 6 fun K hK => ?_
   go_simp
   have hne1 : w.heap.size + 1 + 1 < wD.heap.size := by omega
   have hs4 := ho4.size
   refine hK.out _ _ ⟨fun i => (World.cell?_of_block (ho4.block _ hne1 (by simp))).trans (hHeld.1 i), fun i => (World.cell?_of_block (ho4.block wr.heap.size (by omega) (fun h => by have := List.mem_singleton.1 h; omega))).trans (hHeld.2 i)⟩ (fun hHeld => ?_)
   clear hK K
   (try simp only [pz])
   refine AnyT.done (by kernel_rfl) ?_ _
   have HPN := hd_ (show PgsI w4 w.heap.size w4.heap.size (w.heap.size + 1 + 1) (w.heap.size + 1) x0 l (k + 1) from by
    refine ⟨⟨by omega, by omega⟩, ⟨by omega, by omega⟩, (ho4.block _ hne1 (by simp)).trans HGP.out, fun j => if j = k then wC.heap.size else pb j, ?_, fun j hj => ?_⟩
    ·rw [pgEs_next, ← HY.out]; exact hm4
    ·by_cases hjk : j = k
     ·subst hjk
      show PgB w4 _ _ (if j = j then wC.heap.size else pb j) _
      rw [if_pos rfl, ← HY.out]
      refine ⟨⟨by omega, by omega⟩, _, (ho4.block _ (by omega) (fun h => by have := List.mem_singleton.1 h; omega)).trans HKD.out, shPage.R_more (shPage.R_keep HRD.out fun q h1 h2 => ho4.block q (by omega) (fun h => by have := List.mem_singleton.1 h; omega)) (by omega) (by omega)⟩
     ·show PgB w4 _ _ (if j = k then wC.heap.size else pb j) _
      rw [if_neg hjk]
      exact ((HPG.out j (by omega)).keep fun q h1 h2 => ho4.block q (by omega) (fun h => by have := List.mem_singleton.1 h; omega)).more (by omega))
   have HBN := hd_ (show Below w.heap.size w w4 from (HB.out.trans (HBWD.out.mono (by omega))).trans (ho4.below1 (by omega) (by omega)))
   clear hHeld hup hm4 hm
   go_wp2_with fail
   go_roundw
   case rel => exact ⟨k + 1, by omega, by go_num, by omega, HPN, HBN.out⟩
   all_goals (first | omega | (simp only [intOf, Int.toNat_natCast]; omega) | (simp [intOf]; omega))
  ·obtain rfl : k = l.length := by omega
   have i1 : ¬ (l.length : Int) < (l.length : Int) := by omega
   have HB := hd_ hb; clear hb
   go_wp2_with fail
   go_ret
   exact ⟨_, rfl, ⟨_, HP.out⟩, HB.out⟩
end Go.Proofs.YtnnabkldceklmaaGreatDoor
