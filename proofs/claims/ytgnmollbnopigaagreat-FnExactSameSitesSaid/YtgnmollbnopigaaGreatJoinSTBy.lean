/- World, Site: walks field by field (to). Printed by gen_big.py. -/
import Derived.Test.YtgnmollbnopigaaGreatJoinSTBw
import Derived.Test.YtgnmollbnopigaaGreatJoinSTAy
set_option maxHeartbeats 16000000
set_option maxRecDepth 100000
namespace Go.Proofs.YtgnmollbnopigaaGreat
open Go.RowKit
theorem toWorld_o (X : TyWorld) (vs : List Value) (lo hi : Nat) (w : World) (h : shWorld.R w lo hi vs X) (hhi : hi ≤ w.heap.size) (hf : shWorld.fit 1048576 X) :
  Calls Tryz.prog 23 #[.agg vs.toArray] w fun e w' => ∃ us : List Value, e = .returned (.agg us.toArray) ∧ shWorld.R w' w.heap.size w'.heap.size us X ∧ Below w.heap.size w w' := by
 obtain ⟨x0, X1, x2, X3, X4, x5, x6, x7⟩ := X
 obtain ⟨ft0, ft1, ft2, ft3, ft4, ft5, ft6, ft7⟩ := hf
 obtain ⟨u0, ru0, eu0, k0, u1, ru1, eu1, k1, u2, ru2, eu2, k2, u3, ru3, eu3, k3, u4, ru4, eu4, k4, u5, ru5, eu5, k5, u6, ru6, eu6, k6, k7⟩ := h
 generalize ru6 = u7 at *
 obtain rfl := (show u0 = [.int .i64 x0] from k0)
 have qk2 := k2; obtain ⟨A2, c2, rfl, _⟩ := qk2
 have qk5 := k5; obtain ⟨A5, c5, rfl, _⟩ := qk5
 obtain rfl := (show u6 = [.int .i64 x6] from k6)
 have qk7 := k7; obtain ⟨A7, c7, rfl, _⟩ := qk7
 have HG := Lib.hid (show ∀ (W : World) (b : Nat) (t : TypeId), Blk W b t vs.toArray → W.cell? ⟨b, 0, none⟩ = some (.int .i64 x0) ∧ W.rangeAt b 1 u1 ∧ W.cell? ⟨b, 3, none⟩ = some (.slice A2 x2.length c2) ∧ W.rangeAt b 4 u3 ∧ W.rangeAt b 5 u4 ∧ W.cell? ⟨b, 7, none⟩ = some (.slice A5 x5.length c5) ∧ W.cell? ⟨b, 8, none⟩ = some (.int .i64 x6) ∧ W.cell? ⟨b, 9, none⟩ = some (.slice A7 x7.length c7) from fun W b t hB => by
  have q := blk_all hB
  obtain ⟨p0, q⟩ := rsp eu0 rfl q
  obtain ⟨p1, q⟩ := rsp eu1 (shProgram.R_len k1) q
  obtain ⟨p2, q⟩ := rsp eu2 rfl q
  obtain ⟨p3, q⟩ := rsp eu3 (shTree.R_len k3) q
  obtain ⟨p4, q⟩ := rsp eu4 (shLocks.R_len k4) q
  obtain ⟨p5, q⟩ := rsp eu5 rfl q
  obtain ⟨p6, q⟩ := rsp eu6 rfl q
  exact ⟨rng_one p0, p1, rng_one p2, p3, p4, rng_one p5, rng_one p6, rng_one q⟩)
 clear eu0 eu1 eu2 eu3 eu4 eu5 eu6
 have R0 := ((((((((((Stand.nil w).ad shProgram.R u1 X1 hhi k1 shProgram.R_keep).ad (Sh.row 229 shTrigger).R [.slice A2 x2.length c2] x2 hhi k2 (Sh.row 229 shTrigger).R_keep).ad shTree.R u3 X3 hhi k3 shTree.R_keep).ad shLocks.R u4 X4 hhi k4 shLocks.R_keep).ad (Sh.row 159 shJob).R [.slice A5 x5.length c5] x5 hhi k5 (Sh.row 159 shJob).R_keep).ad (Sh.row 167 shBatch).R [.slice A7 x7.length c7] x7 hhi k7 (Sh.row 167 shBatch).R_keep).box 37 vs.toArray).box 74 zz17).alloc (.cells zz17 74))
 rw [heap_alloc_size1] at R0
 have HR0 := Lib.hid R0
 have HY0 := Lib.hid (show Blk (((w.alloc (.cells vs.toArray 37)).alloc (.cells zz17 74)).alloc (.cells zz17 74)) (w.heap.size + 1 + 1) 74 ([] ++ ((([.int .i64 0] : List Value) ++ (([.slice none 0 0, .slice none 0 0] : List Value) ++ (([.slice none 0 0] : List Value) ++ (([.slice none 0 0] : List Value) ++ (([.slice none 0 0, .slice none 0 0] : List Value) ++ (([.slice none 0 0] : List Value) ++ (([.int .i64 0] : List Value) ++ (([.slice none 0 0] : List Value) ++ ([] : List Value))))))))))).toArray from by
  have := Blk.new ((w.alloc (.cells vs.toArray 37)).alloc (.cells zz17 74)) 74 zz17
  rw [heap_alloc_size1, heap_alloc_size1] at this
  exact this)
 have HZ1 := slH sizeLProgram k1
 have HZ3 := slH sizeLTree k3
 have HZ4 := slH sizeLLocks k4
 have s0 : (w.heap.size + 1 + 1) + 1 ≤ (((w.alloc (.cells vs.toArray 37)).alloc (.cells zz17 74)).alloc (.cells zz17 74)).heap.size := by simp
 have hp0 : ([] : List Value).length = 0 := rfl
 clear R0 k1 k2 k3 k4 k5 k7
 go_enter Tryz.func23, Tryz.ntmps23
 go_upto_region 2 with fail
 generalize (((w.alloc (.cells vs.toArray 37)).alloc (.cells zz17 74)).alloc (.cells zz17 74)) = W0 at *
 have fx := (HG.out _ _ _ (HR0.out.get 1 rfl)).1
 have fy := blk_cell HY0.out hp0; have zy := HY0.out.frozen 0
 go_upto_region 3 with fail
 clear fx fy zy
 have HR1 := Lib.hid (HR0.out.set1 (g := (w.heap.size + 1 + 1)) (o := 0) (.int .i64 x0) (by omega) (by simp only [fa1, fa2, and_true]; omega))
 have HY1 := Lib.hid (blk_next (blk_put1 HY0.out hp0 (.int .i64 x0)))
 have s1 : (w.heap.size + 1 + 1) + 1 ≤ (W0.setCell ⟨w.heap.size + 1 + 1, 0, none⟩ (.int .i64 x0)).heap.size := by simp [World.setCell]; omega
 have hz1 : W0.heap.size ≤ (W0.setCell ⟨w.heap.size + 1 + 1, 0, none⟩ (.int .i64 x0)).heap.size := by simp [World.setCell]
 have hp1 : (([] : List Value) ++ ([.int .i64 x0] : List Value)).length = 1 := by rw [List.length_append, hp0]; rfl
 generalize W0.setCell ⟨w.heap.size + 1 + 1, 0, none⟩ (.int .i64 x0) = W1 at *
 go_wp2_with (first | fail | (refine wlg w.heap.size 1 u1 (HG.out _ _ _ (HR1.out.get 1 rfl)).2.1 Tryz.underlying25 HZ1.out ?_))
 refine (toProgram_o X1 u1 lo hi _ (HR1.out.get 7 rfl) (HR1.out.le 7 rfl) ft1).mono ?_
 rintro e1 w1 ⟨us1, rfl, ho1, hb1⟩
 have HQ := Lib.hid ((HR1.out.below hb1).add W1.heap.size w1.heap.size (fun W => shProgram.R W W1.heap.size w1.heap.size us1 X1) (fun _ _ hk h => shProgram.R_keep h hk) (Nat.le_refl _) ho1)
 have HV := Lib.hid (HY1.out.below hb1 (by omega))
 have hs1 := hb1.size
 have hlu : us1.length = 2 := shProgram.R_len ho1
 have HTH := Lib.hid (there_mid (n := us1.toArray.size) HV.out hp1 (by rw [List.size_toArray, hlu]; rfl))
 have HSZ := saH sizeIProgram ho1
 have HON := Lib.hid (all_oneCell_toArray (shProgram.R_one ho1))
 clear hb1 ho1 HR1 HY1
 go_upto_region 4 with (first | fail | (refine wpList_store_mid rfl _ _ _ rfl (w.heap.size + 1 + 1) 1 us1.toArray rfl rfl HTH.out HSZ.out HON.out ?_))
 have HR2 := Lib.hid (HQ.out.out (g := (w.heap.size + 1 + 1)) (setCells_out (w.heap.size + 1 + 1) us1 1 w1).1 (by omega) (by simp only [fa1, fa2, and_true]; omega))
 have HY2 := Lib.hid (blk_next (blk_put us1 _ _ _ w1 1 HV.out hp1 (by rw [hlu]; rfl)))
 have hp2 : ((([] : List Value) ++ ([.int .i64 x0] : List Value)) ++ us1).length = 3 := by rw [List.length_append, hp1, hlu]
 clear HTH HSZ HON hlu
 have s2 : (w.heap.size + 1 + 1) + 1 ≤ (w1.setCells (w.heap.size + 1 + 1) 1 us1).heap.size := by rw [(setCells_out _ _ _ _).2]; omega
 have hz2 : w1.heap.size ≤ (w1.setCells (w.heap.size + 1 + 1) 1 us1).heap.size := by rw [(setCells_out _ _ _ _).2]; exact Nat.le_refl _
 clear HQ HV
 generalize w1.setCells (w.heap.size + 1 + 1) 1 us1 = W2 at *
 have fx := (HG.out _ _ _ (HR2.out.get 2 rfl)).2.2.1
 go_wp2_with fail
 clear fx
 refine (toTriggerS_f A2 c2 x2 lo hi _ (HR2.out.get 7 rfl) (HR2.out.le 7 rfl) ft2).mono ?_
 rintro e2 w2 ⟨B2, d2, rfl, ho2, hb2⟩
 have HQ := Lib.hid ((HR2.out.below hb2).add W2.heap.size w2.heap.size (fun W => (Sh.row 229 shTrigger).R W W2.heap.size w2.heap.size ([.slice B2 x2.length d2] : List Value) x2) (fun _ _ hk h => (Sh.row 229 shTrigger).R_keep h hk) (Nat.le_refl _) ho2.reads)
 have HV := Lib.hid (HY2.out.below hb2 (by omega))
 have hs2 := hb2.size
 have fy := blk_cell HV.out hp2; have zy := HV.out.frozen 3
 clear hb2 ho2 HR2 HY2
 go_upto_region 5 with fail
 clear fy zy
 have HR3 := Lib.hid (HQ.out.set1 (g := (w.heap.size + 1 + 1)) (o := 3) (.slice B2 x2.length d2) (by omega) (by simp only [fa1, fa2, and_true]; omega))
 have HY3 := Lib.hid (blk_next (blk_put1 HV.out hp2 (.slice B2 x2.length d2)))
 have hp3 : (((([] : List Value) ++ ([.int .i64 x0] : List Value)) ++ us1) ++ ([.slice B2 x2.length d2] : List Value)).length = 4 := by rw [List.length_append, hp2]; rfl
 have s3 : (w.heap.size + 1 + 1) + 1 ≤ (w2.setCell ⟨w.heap.size + 1 + 1, 3, none⟩ (.slice B2 x2.length d2)).heap.size := by simp [World.setCell]; omega
 have hz3 : w2.heap.size ≤ (w2.setCell ⟨w.heap.size + 1 + 1, 3, none⟩ (.slice B2 x2.length d2)).heap.size := by simp [World.setCell]
 clear HQ HV
 generalize w2.setCell ⟨w.heap.size + 1 + 1, 3, none⟩ (.slice B2 x2.length d2) = W3 at *
 go_wp2_with (first | fail | (refine wlg w.heap.size 4 u3 (HG.out _ _ _ (HR3.out.get 3 rfl)).2.2.2.1 Tryz.underlying29 HZ3.out ?_))
 refine (toTree_o X3 u3 lo hi _ (HR3.out.get 7 rfl) (HR3.out.le 7 rfl) ft3).mono ?_
 rintro e3 w3 ⟨us3, rfl, ho3, hb3⟩
 have HQ := Lib.hid ((HR3.out.below hb3).add W3.heap.size w3.heap.size (fun W => shTree.R W W3.heap.size w3.heap.size us3 X3) (fun _ _ hk h => shTree.R_keep h hk) (Nat.le_refl _) ho3)
 have HV := Lib.hid (HY3.out.below hb3 (by omega))
 have hs3 := hb3.size
 have hlu : us3.length = 1 := shTree.R_len ho3
 have HTH := Lib.hid (there_mid (n := us3.toArray.size) HV.out hp3 (by rw [List.size_toArray, hlu]; rfl))
 have HSZ := saH sizeITree ho3
 have HON := Lib.hid (all_oneCell_toArray (shTree.R_one ho3))
 clear hb3 ho3 HR3 HY3
 go_upto_region 6 with (first | fail | (refine wpList_store_mid rfl _ _ _ rfl (w.heap.size + 1 + 1) 4 us3.toArray rfl rfl HTH.out HSZ.out HON.out ?_))
 have HR4 := Lib.hid (HQ.out.out (g := (w.heap.size + 1 + 1)) (setCells_out (w.heap.size + 1 + 1) us3 4 w3).1 (by omega) (by simp only [fa1, fa2, and_true]; omega))
 have HY4 := Lib.hid (blk_next (blk_put us3 _ _ _ w3 4 HV.out hp3 (by rw [hlu]; rfl)))
 have hp4 : ((((([] : List Value) ++ ([.int .i64 x0] : List Value)) ++ us1) ++ ([.slice B2 x2.length d2] : List Value)) ++ us3).length = 5 := by rw [List.length_append, hp3, hlu]
 clear HTH HSZ HON hlu
 have s4 : (w.heap.size + 1 + 1) + 1 ≤ (w3.setCells (w.heap.size + 1 + 1) 4 us3).heap.size := by rw [(setCells_out _ _ _ _).2]; omega
 have hz4 : w3.heap.size ≤ (w3.setCells (w.heap.size + 1 + 1) 4 us3).heap.size := by rw [(setCells_out _ _ _ _).2]; exact Nat.le_refl _
 clear HQ HV
 generalize w3.setCells (w.heap.size + 1 + 1) 4 us3 = W4 at *
 go_wp2_with (first | fail | (refine wlg w.heap.size 5 u4 (HG.out _ _ _ (HR4.out.get 4 rfl)).2.2.2.2.1 Tryz.underlying33 HZ4.out ?_))
 refine (toLocks_o X4 u4 lo hi _ (HR4.out.get 7 rfl) (HR4.out.le 7 rfl) ft4).mono ?_
 rintro e4 w4 ⟨us4, rfl, ho4, hb4⟩
 have HQ := Lib.hid ((HR4.out.below hb4).add W4.heap.size w4.heap.size (fun W => shLocks.R W W4.heap.size w4.heap.size us4 X4) (fun _ _ hk h => shLocks.R_keep h hk) (Nat.le_refl _) ho4)
 have HV := Lib.hid (HY4.out.below hb4 (by omega))
 have hs4 := hb4.size
 have hlu : us4.length = 2 := shLocks.R_len ho4
 have HTH := Lib.hid (there_mid (n := us4.toArray.size) HV.out hp4 (by rw [List.size_toArray, hlu]; rfl))
 have HSZ := saH sizeILocks ho4
 have HON := Lib.hid (all_oneCell_toArray (shLocks.R_one ho4))
 clear hb4 ho4 HR4 HY4
 go_upto_region 7 with (first | fail | (refine wpList_store_mid rfl _ _ _ rfl (w.heap.size + 1 + 1) 5 us4.toArray rfl rfl HTH.out HSZ.out HON.out ?_))
 have HR5 := Lib.hid (HQ.out.out (g := (w.heap.size + 1 + 1)) (setCells_out (w.heap.size + 1 + 1) us4 5 w4).1 (by omega) (by simp only [fa1, fa2, and_true]; omega))
 have HY5 := Lib.hid (blk_next (blk_put us4 _ _ _ w4 5 HV.out hp4 (by rw [hlu]; rfl)))
 have hp5 : (((((([] : List Value) ++ ([.int .i64 x0] : List Value)) ++ us1) ++ ([.slice B2 x2.length d2] : List Value)) ++ us3) ++ us4).length = 7 := by rw [List.length_append, hp4, hlu]
 clear HTH HSZ HON hlu
 have s5 : (w.heap.size + 1 + 1) + 1 ≤ (w4.setCells (w.heap.size + 1 + 1) 5 us4).heap.size := by rw [(setCells_out _ _ _ _).2]; omega
 have hz5 : w4.heap.size ≤ (w4.setCells (w.heap.size + 1 + 1) 5 us4).heap.size := by rw [(setCells_out _ _ _ _).2]; exact Nat.le_refl _
 clear HQ HV
 generalize w4.setCells (w.heap.size + 1 + 1) 5 us4 = W5 at *
 have fx := (HG.out _ _ _ (HR5.out.get 5 rfl)).2.2.2.2.2.1
 go_wp2_with fail
 clear fx
 refine (toJobS_f A5 c5 x5 lo hi _ (HR5.out.get 7 rfl) (HR5.out.le 7 rfl) ft5).mono ?_
 rintro e5 w5 ⟨B5, d5, rfl, ho5, hb5⟩
 have HQ := Lib.hid ((HR5.out.below hb5).add W5.heap.size w5.heap.size (fun W => (Sh.row 159 shJob).R W W5.heap.size w5.heap.size ([.slice B5 x5.length d5] : List Value) x5) (fun _ _ hk h => (Sh.row 159 shJob).R_keep h hk) (Nat.le_refl _) ho5)
 have HV := Lib.hid (HY5.out.below hb5 (by omega))
 have hs5 := hb5.size
 have fy := blk_cell HV.out hp5; have zy := HV.out.frozen 7
 clear hb5 ho5 HR5 HY5
 go_upto_region 8 with fail
 clear fy zy
 have HR6 := Lib.hid (HQ.out.set1 (g := (w.heap.size + 1 + 1)) (o := 7) (.slice B5 x5.length d5) (by omega) (by simp only [fa1, fa2, and_true]; omega))
 have HY6 := Lib.hid (blk_next (blk_put1 HV.out hp5 (.slice B5 x5.length d5)))
 have hp6 : ((((((([] : List Value) ++ ([.int .i64 x0] : List Value)) ++ us1) ++ ([.slice B2 x2.length d2] : List Value)) ++ us3) ++ us4) ++ ([.slice B5 x5.length d5] : List Value)).length = 8 := by rw [List.length_append, hp5]; rfl
 have s6 : (w.heap.size + 1 + 1) + 1 ≤ (w5.setCell ⟨w.heap.size + 1 + 1, 7, none⟩ (.slice B5 x5.length d5)).heap.size := by simp [World.setCell]; omega
 have hz6 : w5.heap.size ≤ (w5.setCell ⟨w.heap.size + 1 + 1, 7, none⟩ (.slice B5 x5.length d5)).heap.size := by simp [World.setCell]
 clear HQ HV
 generalize w5.setCell ⟨w.heap.size + 1 + 1, 7, none⟩ (.slice B5 x5.length d5) = W6 at *
 have fx := (HG.out _ _ _ (HR6.out.get 6 rfl)).2.2.2.2.2.2.1
 have fy := blk_cell HY6.out hp6; have zy := HY6.out.frozen 8
 go_upto_region 9 with fail
 clear fx fy zy
 have HR7 := Lib.hid (HR6.out.set1 (g := (w.heap.size + 1 + 1)) (o := 8) (.int .i64 x6) (by omega) (by simp only [fa1, fa2, and_true]; omega))
 have HY7 := Lib.hid (blk_next (blk_put1 HY6.out hp6 (.int .i64 x6)))
 have s7 : (w.heap.size + 1 + 1) + 1 ≤ (W6.setCell ⟨w.heap.size + 1 + 1, 8, none⟩ (.int .i64 x6)).heap.size := by simp [World.setCell]; omega
 have hz7 : W6.heap.size ≤ (W6.setCell ⟨w.heap.size + 1 + 1, 8, none⟩ (.int .i64 x6)).heap.size := by simp [World.setCell]
 have hp7 : (((((((([] : List Value) ++ ([.int .i64 x0] : List Value)) ++ us1) ++ ([.slice B2 x2.length d2] : List Value)) ++ us3) ++ us4) ++ ([.slice B5 x5.length d5] : List Value)) ++ ([.int .i64 x6] : List Value)).length = 9 := by rw [List.length_append, hp6]; rfl
 generalize W6.setCell ⟨w.heap.size + 1 + 1, 8, none⟩ (.int .i64 x6) = W7 at *
 have fx := (HG.out _ _ _ (HR7.out.get 6 rfl)).2.2.2.2.2.2.2
 go_wp2_with fail
 clear fx
 refine (toBatchS_f A7 c7 x7 lo hi _ (HR7.out.get 7 rfl) (HR7.out.le 7 rfl) ft7).mono ?_
 rintro e7 w7 ⟨B7, d7, rfl, ho7, hb7⟩
 have HQ := Lib.hid ((HR7.out.below hb7).add W7.heap.size w7.heap.size (fun W => (Sh.row 167 shBatch).R W W7.heap.size w7.heap.size ([.slice B7 x7.length d7] : List Value) x7) (fun _ _ hk h => (Sh.row 167 shBatch).R_keep h hk) (Nat.le_refl _) ho7.reads)
 have HV := Lib.hid (HY7.out.below hb7 (by omega))
 have hs7 := hb7.size
 have fy := blk_cell HV.out hp7; have zy := HV.out.frozen 9
 clear hb7 ho7 HR7 HY7
 go_upto_region 10 with fail
 clear fy zy
 have HR8 := Lib.hid (HQ.out.set1 (g := (w.heap.size + 1 + 1)) (o := 9) (.slice B7 x7.length d7) (by omega) (by simp only [fa1, fa2, and_true]; omega))
 have HY8 := Lib.hid (blk_next (blk_put1 HV.out hp7 (.slice B7 x7.length d7)))
 have hp8 : ((((((((([] : List Value) ++ ([.int .i64 x0] : List Value)) ++ us1) ++ ([.slice B2 x2.length d2] : List Value)) ++ us3) ++ us4) ++ ([.slice B5 x5.length d5] : List Value)) ++ ([.int .i64 x6] : List Value)) ++ ([.slice B7 x7.length d7] : List Value)).length = 10 := by rw [List.length_append, hp7]; rfl
 have s8 : (w.heap.size + 1 + 1) + 1 ≤ (w7.setCell ⟨w.heap.size + 1 + 1, 9, none⟩ (.slice B7 x7.length d7)).heap.size := by simp [World.setCell]; omega
 have hz8 : w7.heap.size ≤ (w7.setCell ⟨w.heap.size + 1 + 1, 9, none⟩ (.slice B7 x7.length d7)).heap.size := by simp [World.setCell]
 clear HQ HV
 generalize w7.setCell ⟨w.heap.size + 1 + 1, 9, none⟩ (.slice B7 x7.length d7) = W8 at *
 have HRT := Lib.hid (show shWorld.R W8 ((w.heap.size + 1 + 1) + 1) W8.heap.size ((([.int .i64 x0] : List Value) ++ (us1 ++ (([.slice B2 x2.length d2] : List Value) ++ (us3 ++ (us4 ++ (([.slice B5 x5.length d5] : List Value) ++ (([.int .i64 x6] : List Value) ++ ([.slice B7 x7.length d7] : List Value))))))))) (x0, X1, x2, X3, X4, x5, x6, x7) from ⟨_, _, rfl, rfl, ⟨_, _, rfl, (shProgram.R_more (HR8.out.get 5 rfl) (by omega) (by omega)), ⟨_, _, rfl, ((Sh.row 229 shTrigger).R_more (HR8.out.get 4 rfl) (by omega) (by omega)), ⟨_, _, rfl, (shTree.R_more (HR8.out.get 3 rfl) (by omega) (by omega)), ⟨_, _, rfl, (shLocks.R_more (HR8.out.get 2 rfl) (by omega) (by omega)), ⟨_, _, rfl, ((Sh.row 159 shJob).R_more (HR8.out.get 1 rfl) (by omega) (by omega)), ⟨_, _, rfl, rfl, ((Sh.row 167 shBatch).R_more (HR8.out.get 0 rfl) (by omega) (by omega))⟩⟩⟩⟩⟩⟩⟩)
 have HYF := Lib.hid (show Blk W8 (w.heap.size + 1 + 1) 74 ((([.int .i64 x0] : List Value) ++ (us1 ++ (([.slice B2 x2.length d2] : List Value) ++ (us3 ++ (us4 ++ (([.slice B5 x5.length d5] : List Value) ++ (([.int .i64 x6] : List Value) ++ ([.slice B7 x7.length d7] : List Value))))))))).toArray from by have := HY8.out; simpa only [List.append_assoc, List.nil_append, List.append_nil] using this)
 have HLN : ((([.int .i64 x0] : List Value) ++ (us1 ++ (([.slice B2 x2.length d2] : List Value) ++ (us3 ++ (us4 ++ (([.slice B5 x5.length d5] : List Value) ++ (([.int .i64 x6] : List Value) ++ ([.slice B7 x7.length d7] : List Value))))))))).length = 10 := by have := hp8; simpa only [List.append_assoc, List.nil_append, List.append_nil] using this
 generalize ((([.int .i64 x0] : List Value) ++ (us1 ++ (([.slice B2 x2.length d2] : List Value) ++ (us3 ++ (us4 ++ (([.slice B5 x5.length d5] : List Value) ++ (([.int .i64 x6] : List Value) ++ ([.slice B7 x7.length d7] : List Value))))))))) = VT at *
 have HONE := Lib.hid (shWorld.R_one HRT.out)
 have HSZ := Lib.hid (size_arr (P := Tryz.prog) sizeIWorld HRT.out)
 have HOL := Lib.hid (show (zz17 : Array Value).size = VT.toArray.size from Eq.trans (b := 10) rfl ((List.size_toArray ..).trans HLN).symm)
 have HRZ := Lib.hid (HR8.out.get 6 rfl)
 have HBE := Lib.hid HR8.out.1
 clear HR8 HY8 hp0 hp1 hp2 hp3 hp4 hp5 hp6 hp7 hp8
 refine wp_region_list ?_
 refine wpList_loadAll rfl 74 (.tmp 3) rfl (w.heap.size + 1 + 1) rfl HYF.out Tryz.underlying74 rfl HSZ.out ?_
 simp only [Go.Act.put, za, zb, zc]
 refine wpList_storeAll rfl 74 (.tmp 2) _ rfl (w.heap.size + 1) VT.toArray rfl rfl HRZ.out HSZ.out HOL.out HONE.out ?_
 intro wF hbF hoF hzF
 have HBF := Lib.hid hbF
 have HRF := Lib.hid (shWorld.R_keep HRT.out (fun b q1 q2 => hoF.block b (by omega) (by simp; omega)))
 have HBB := Lib.hid (HBE.out.trans (hoF.below1 (by omega) (by omega)))
 clear hbF hoF HRT HYF HONE HRZ HBE HOL
 go_wp2_with fail
 refine bodyPost_ret (results_cell_row (P := Tryz.prog) rfl _ _ (w.heap.size + 1) 74 VT.toArray (0, 0) _ rfl HBF.out Tryz.underlying74 rfl HSZ.out) rfl ⟨VT, rfl, ?_, HBB.out⟩
 exact shWorld.R_more HRF.out (by omega) (by omega)
theorem toSite_o (X : TySite) (vs : List Value) (lo hi : Nat) (w : World) (h : shSite.R w lo hi vs X) (hhi : hi ≤ w.heap.size) (hf : shSite.fit 1048576 X) :
  Calls Tryz.prog 7 #[.agg vs.toArray] w fun e w' => ∃ us : List Value, e = .returned (.agg us.toArray) ∧ shSite.R w' w.heap.size w'.heap.size us X ∧ Below w.heap.size w w' := by
 obtain ⟨X0, X1, X2, x3, x4⟩ := X
 obtain ⟨ft0, ft1, ft2, ft3, ft4⟩ := hf
 obtain ⟨u0, ru0, eu0, k0, u1, ru1, eu1, k1, u2, ru2, eu2, k2, u3, ru3, eu3, k3, k4⟩ := h
 generalize ru3 = u4 at *
 obtain rfl := (show u3 = [.int .i64 x3] from k3)
 have qk4 := k4; obtain ⟨A4, c4, rfl, _⟩ := qk4
 have HG := Lib.hid (show ∀ (W : World) (b : Nat) (t : TypeId), Blk W b t vs.toArray → W.rangeAt b 0 u0 ∧ W.rangeAt b 10 u1 ∧ W.rangeAt b 34 u2 ∧ W.cell? ⟨b, 35, none⟩ = some (.int .i64 x3) ∧ W.cell? ⟨b, 36, none⟩ = some (.slice A4 x4.length c4) from fun W b t hB => by
  have q := blk_all hB
  obtain ⟨p0, q⟩ := rsp eu0 (shWorld.R_len k0) q
  obtain ⟨p1, q⟩ := rsp eu1 (shBase.R_len k1) q
  obtain ⟨p2, q⟩ := rsp eu2 (shTree.R_len k2) q
  obtain ⟨p3, q⟩ := rsp eu3 rfl q
  exact ⟨p0, p1, p2, rng_one p3, rng_one q⟩)
 clear eu0 eu1 eu2 eu3
 have R0 := ((((((((Stand.nil w).ad shWorld.R u0 X0 hhi k0 shWorld.R_keep).ad shBase.R u1 X1 hhi k1 shBase.R_keep).ad shTree.R u2 X2 hhi k2 shTree.R_keep).ad (Sh.row 167 shBatch).R [.slice A4 x4.length c4] x4 hhi k4 (Sh.row 167 shBatch).R_keep).box 56 vs.toArray).box 91 zz18).alloc (.cells zz18 91))
 rw [heap_alloc_size1] at R0
 have HR0 := Lib.hid R0
 have HY0 := Lib.hid (show Blk (((w.alloc (.cells vs.toArray 56)).alloc (.cells zz18 91)).alloc (.cells zz18 91)) (w.heap.size + 1 + 1) 91 ([] ++ ((([.int .i64 0, .slice none 0 0, .slice none 0 0, .slice none 0 0, .slice none 0 0, .slice none 0 0, .slice none 0 0, .slice none 0 0, .int .i64 0, .slice none 0 0] : List Value) ++ (([.int .i64 0, .slice none 0 0, .int .i64 0, .slice none 0 0, .slice none 0 0, .int .i64 0, .int .i64 0, .int .i64 0, .slice none 0 0, .int .i64 0, .int .i64 0, .int .i64 0, .slice none 0 0, .slice none 0 0, .slice none 0 0, .int .i64 0, .slice none 0 0, .slice none 0 0, .int .i64 0, .int .i64 0, .int .i64 0, .int .i64 0, .int .i64 0, .int .i64 0] : List Value) ++ (([.slice none 0 0] : List Value) ++ (([.int .i64 0] : List Value) ++ (([.slice none 0 0] : List Value) ++ ([] : List Value)))))))).toArray from by
  have := Blk.new ((w.alloc (.cells vs.toArray 56)).alloc (.cells zz18 91)) 91 zz18
  rw [heap_alloc_size1, heap_alloc_size1] at this
  exact this)
 have HZ0 := slH sizeLWorld k0
 have HZ1 := slH sizeLBase k1
 have HZ2 := slH sizeLTree k2
 have s0 : (w.heap.size + 1 + 1) + 1 ≤ (((w.alloc (.cells vs.toArray 56)).alloc (.cells zz18 91)).alloc (.cells zz18 91)).heap.size := by simp
 have hp0 : ([] : List Value).length = 0 := rfl
 clear R0 k0 k1 k2 k4
 go_enter Tryz.func7, Tryz.ntmps7
 go_upto_region 2 with fail
 generalize (((w.alloc (.cells vs.toArray 56)).alloc (.cells zz18 91)).alloc (.cells zz18 91)) = W0 at *
 go_wp2_with (first | fail | (refine wlg w.heap.size 0 u0 (HG.out _ _ _ (HR0.out.get 1 rfl)).1 Tryz.underlying37 HZ0.out ?_))
 refine (toWorld_o X0 u0 lo hi _ (HR0.out.get 5 rfl) (HR0.out.le 5 rfl) ft0).mono ?_
 rintro e0 w0 ⟨us0, rfl, ho0, hb0⟩
 have HQ := Lib.hid ((HR0.out.below hb0).add W0.heap.size w0.heap.size (fun W => shWorld.R W W0.heap.size w0.heap.size us0 X0) (fun _ _ hk h => shWorld.R_keep h hk) (Nat.le_refl _) ho0)
 have HV := Lib.hid (HY0.out.below hb0 (by omega))
 have hs0 := hb0.size
 have hlu : us0.length = 10 := shWorld.R_len ho0
 have HTH := Lib.hid (there_mid (n := us0.toArray.size) HV.out hp0 (by rw [List.size_toArray, hlu]; rfl))
 have HSZ := saH sizeIWorld ho0
 have HON := Lib.hid (all_oneCell_toArray (shWorld.R_one ho0))
 clear hb0 ho0 HR0 HY0
 go_upto_region 3 with (first | fail | (refine wpList_store_mid rfl _ _ _ rfl (w.heap.size + 1 + 1) 0 us0.toArray rfl rfl HTH.out HSZ.out HON.out ?_))
 have HR1 := Lib.hid (HQ.out.out (g := (w.heap.size + 1 + 1)) (setCells_out (w.heap.size + 1 + 1) us0 0 w0).1 (by omega) (by simp only [fa1, fa2, and_true]; omega))
 have HY1 := Lib.hid (blk_next (blk_put us0 _ _ _ w0 0 HV.out hp0 (by rw [hlu]; rfl)))
 have hp1 : (([] : List Value) ++ us0).length = 10 := by rw [List.length_append, hp0, hlu]
 clear HTH HSZ HON hlu
 have s1 : (w.heap.size + 1 + 1) + 1 ≤ (w0.setCells (w.heap.size + 1 + 1) 0 us0).heap.size := by rw [(setCells_out _ _ _ _).2]; omega
 have hz1 : w0.heap.size ≤ (w0.setCells (w.heap.size + 1 + 1) 0 us0).heap.size := by rw [(setCells_out _ _ _ _).2]; exact Nat.le_refl _
 clear HQ HV
 generalize w0.setCells (w.heap.size + 1 + 1) 0 us0 = W1 at *
 go_wp2_with (first | fail | (refine wlg w.heap.size 10 u1 (HG.out _ _ _ (HR1.out.get 2 rfl)).2.1 Tryz.underlying54 HZ1.out ?_))
 refine (toBase_o X1 u1 lo hi _ (HR1.out.get 5 rfl) (HR1.out.le 5 rfl) ft1).mono ?_
 rintro e1 w1 ⟨us1, rfl, ho1, hb1⟩
 have HQ := Lib.hid ((HR1.out.below hb1).add W1.heap.size w1.heap.size (fun W => shBase.R W W1.heap.size w1.heap.size us1 X1) (fun _ _ hk h => shBase.R_keep h hk) (Nat.le_refl _) ho1)
 have HV := Lib.hid (HY1.out.below hb1 (by omega))
 have hs1 := hb1.size
 have hlu : us1.length = 24 := shBase.R_len ho1
 have HTH := Lib.hid (there_mid (n := us1.toArray.size) HV.out hp1 (by rw [List.size_toArray, hlu]; rfl))
 have HSZ := saH sizeIBase ho1
 have HON := Lib.hid (all_oneCell_toArray (shBase.R_one ho1))
 clear hb1 ho1 HR1 HY1
 go_upto_region 4 with (first | fail | (refine wpList_store_mid rfl _ _ _ rfl (w.heap.size + 1 + 1) 10 us1.toArray rfl rfl HTH.out HSZ.out HON.out ?_))
 have HR2 := Lib.hid (HQ.out.out (g := (w.heap.size + 1 + 1)) (setCells_out (w.heap.size + 1 + 1) us1 10 w1).1 (by omega) (by simp only [fa1, fa2, and_true]; omega))
 have HY2 := Lib.hid (blk_next (blk_put us1 _ _ _ w1 10 HV.out hp1 (by rw [hlu]; rfl)))
 have hp2 : ((([] : List Value) ++ us0) ++ us1).length = 34 := by rw [List.length_append, hp1, hlu]
 clear HTH HSZ HON hlu
 have s2 : (w.heap.size + 1 + 1) + 1 ≤ (w1.setCells (w.heap.size + 1 + 1) 10 us1).heap.size := by rw [(setCells_out _ _ _ _).2]; omega
 have hz2 : w1.heap.size ≤ (w1.setCells (w.heap.size + 1 + 1) 10 us1).heap.size := by rw [(setCells_out _ _ _ _).2]; exact Nat.le_refl _
 clear HQ HV
 generalize w1.setCells (w.heap.size + 1 + 1) 10 us1 = W2 at *
 go_wp2_with (first | fail | (refine wlg w.heap.size 34 u2 (HG.out _ _ _ (HR2.out.get 3 rfl)).2.2.1 Tryz.underlying29 HZ2.out ?_))
 refine (toTree_o X2 u2 lo hi _ (HR2.out.get 5 rfl) (HR2.out.le 5 rfl) ft2).mono ?_
 rintro e2 w2 ⟨us2, rfl, ho2, hb2⟩
 have HQ := Lib.hid ((HR2.out.below hb2).add W2.heap.size w2.heap.size (fun W => shTree.R W W2.heap.size w2.heap.size us2 X2) (fun _ _ hk h => shTree.R_keep h hk) (Nat.le_refl _) ho2)
 have HV := Lib.hid (HY2.out.below hb2 (by omega))
 have hs2 := hb2.size
 have hlu : us2.length = 1 := shTree.R_len ho2
 have HTH := Lib.hid (there_mid (n := us2.toArray.size) HV.out hp2 (by rw [List.size_toArray, hlu]; rfl))
 have HSZ := saH sizeITree ho2
 have HON := Lib.hid (all_oneCell_toArray (shTree.R_one ho2))
 clear hb2 ho2 HR2 HY2
 go_upto_region 5 with (first | fail | (refine wpList_store_mid rfl _ _ _ rfl (w.heap.size + 1 + 1) 34 us2.toArray rfl rfl HTH.out HSZ.out HON.out ?_))
 have HR3 := Lib.hid (HQ.out.out (g := (w.heap.size + 1 + 1)) (setCells_out (w.heap.size + 1 + 1) us2 34 w2).1 (by omega) (by simp only [fa1, fa2, and_true]; omega))
 have HY3 := Lib.hid (blk_next (blk_put us2 _ _ _ w2 34 HV.out hp2 (by rw [hlu]; rfl)))
 have hp3 : (((([] : List Value) ++ us0) ++ us1) ++ us2).length = 35 := by rw [List.length_append, hp2, hlu]
 clear HTH HSZ HON hlu
 have s3 : (w.heap.size + 1 + 1) + 1 ≤ (w2.setCells (w.heap.size + 1 + 1) 34 us2).heap.size := by rw [(setCells_out _ _ _ _).2]; omega
 have hz3 : w2.heap.size ≤ (w2.setCells (w.heap.size + 1 + 1) 34 us2).heap.size := by rw [(setCells_out _ _ _ _).2]; exact Nat.le_refl _
 clear HQ HV
 generalize w2.setCells (w.heap.size + 1 + 1) 34 us2 = W3 at *
 have fx := (HG.out _ _ _ (HR3.out.get 4 rfl)).2.2.2.1
 have fy := blk_cell HY3.out hp3; have zy := HY3.out.frozen 35
 go_upto_region 6 with fail
 clear fx fy zy
 have HR4 := Lib.hid (HR3.out.set1 (g := (w.heap.size + 1 + 1)) (o := 35) (.int .i64 x3) (by omega) (by simp only [fa1, fa2, and_true]; omega))
 have HY4 := Lib.hid (blk_next (blk_put1 HY3.out hp3 (.int .i64 x3)))
 have s4 : (w.heap.size + 1 + 1) + 1 ≤ (W3.setCell ⟨w.heap.size + 1 + 1, 35, none⟩ (.int .i64 x3)).heap.size := by simp [World.setCell]; omega
 have hz4 : W3.heap.size ≤ (W3.setCell ⟨w.heap.size + 1 + 1, 35, none⟩ (.int .i64 x3)).heap.size := by simp [World.setCell]
 have hp4 : ((((([] : List Value) ++ us0) ++ us1) ++ us2) ++ ([.int .i64 x3] : List Value)).length = 36 := by rw [List.length_append, hp3]; rfl
 generalize W3.setCell ⟨w.heap.size + 1 + 1, 35, none⟩ (.int .i64 x3) = W4 at *
 have fx := (HG.out _ _ _ (HR4.out.get 4 rfl)).2.2.2.2
 go_wp2_with fail
 clear fx
 refine (toBatchS_f A4 c4 x4 lo hi _ (HR4.out.get 5 rfl) (HR4.out.le 5 rfl) ft4).mono ?_
 rintro e4 w4 ⟨B4, d4, rfl, ho4, hb4⟩
 have HQ := Lib.hid ((HR4.out.below hb4).add W4.heap.size w4.heap.size (fun W => (Sh.row 167 shBatch).R W W4.heap.size w4.heap.size ([.slice B4 x4.length d4] : List Value) x4) (fun _ _ hk h => (Sh.row 167 shBatch).R_keep h hk) (Nat.le_refl _) ho4.reads)
 have HV := Lib.hid (HY4.out.below hb4 (by omega))
 have hs4 := hb4.size
 have fy := blk_cell HV.out hp4; have zy := HV.out.frozen 36
 clear hb4 ho4 HR4 HY4
 go_upto_region 7 with fail
 clear fy zy
 have HR5 := Lib.hid (HQ.out.set1 (g := (w.heap.size + 1 + 1)) (o := 36) (.slice B4 x4.length d4) (by omega) (by simp only [fa1, fa2, and_true]; omega))
 have HY5 := Lib.hid (blk_next (blk_put1 HV.out hp4 (.slice B4 x4.length d4)))
 have hp5 : (((((([] : List Value) ++ us0) ++ us1) ++ us2) ++ ([.int .i64 x3] : List Value)) ++ ([.slice B4 x4.length d4] : List Value)).length = 37 := by rw [List.length_append, hp4]; rfl
 have s5 : (w.heap.size + 1 + 1) + 1 ≤ (w4.setCell ⟨w.heap.size + 1 + 1, 36, none⟩ (.slice B4 x4.length d4)).heap.size := by simp [World.setCell]; omega
 have hz5 : w4.heap.size ≤ (w4.setCell ⟨w.heap.size + 1 + 1, 36, none⟩ (.slice B4 x4.length d4)).heap.size := by simp [World.setCell]
 clear HQ HV
 generalize w4.setCell ⟨w.heap.size + 1 + 1, 36, none⟩ (.slice B4 x4.length d4) = W5 at *
 have HRT := Lib.hid (show shSite.R W5 ((w.heap.size + 1 + 1) + 1) W5.heap.size ((us0 ++ (us1 ++ (us2 ++ (([.int .i64 x3] : List Value) ++ ([.slice B4 x4.length d4] : List Value)))))) (X0, X1, X2, x3, x4) from ⟨_, _, rfl, (shWorld.R_more (HR5.out.get 3 rfl) (by omega) (by omega)), ⟨_, _, rfl, (shBase.R_more (HR5.out.get 2 rfl) (by omega) (by omega)), ⟨_, _, rfl, (shTree.R_more (HR5.out.get 1 rfl) (by omega) (by omega)), ⟨_, _, rfl, rfl, ((Sh.row 167 shBatch).R_more (HR5.out.get 0 rfl) (by omega) (by omega))⟩⟩⟩⟩)
 have HYF := Lib.hid (show Blk W5 (w.heap.size + 1 + 1) 91 ((us0 ++ (us1 ++ (us2 ++ (([.int .i64 x3] : List Value) ++ ([.slice B4 x4.length d4] : List Value)))))).toArray from by have := HY5.out; simpa only [List.append_assoc, List.nil_append, List.append_nil] using this)
 have HLN : ((us0 ++ (us1 ++ (us2 ++ (([.int .i64 x3] : List Value) ++ ([.slice B4 x4.length d4] : List Value)))))).length = 37 := by have := hp5; simpa only [List.append_assoc, List.nil_append, List.append_nil] using this
 generalize ((us0 ++ (us1 ++ (us2 ++ (([.int .i64 x3] : List Value) ++ ([.slice B4 x4.length d4] : List Value)))))) = VT at *
 have HONE := Lib.hid (shSite.R_one HRT.out)
 have HSZ := Lib.hid (size_arr (P := Tryz.prog) sizeISite HRT.out)
 have HOL := Lib.hid (show (zz18 : Array Value).size = VT.toArray.size from Eq.trans (b := 37) rfl ((List.size_toArray ..).trans HLN).symm)
 have HRZ := Lib.hid (HR5.out.get 4 rfl)
 have HBE := Lib.hid HR5.out.1
 clear HR5 HY5 hp0 hp1 hp2 hp3 hp4 hp5
 refine wp_region_list ?_
 refine wpList_loadAll rfl 91 (.tmp 3) rfl (w.heap.size + 1 + 1) rfl HYF.out Tryz.underlying91 rfl HSZ.out ?_
 simp only [Go.Act.put, za, zb, zc]
 refine wpList_storeAll rfl 91 (.tmp 2) _ rfl (w.heap.size + 1) VT.toArray rfl rfl HRZ.out HSZ.out HOL.out HONE.out ?_
 intro wF hbF hoF hzF
 have HBF := Lib.hid hbF
 have HRF := Lib.hid (shSite.R_keep HRT.out (fun b q1 q2 => hoF.block b (by omega) (by simp; omega)))
 have HBB := Lib.hid (HBE.out.trans (hoF.below1 (by omega) (by omega)))
 clear hbF hoF HRT HYF HONE HRZ HBE HOL
 go_wp2_with fail
 refine bodyPost_ret (results_cell_row (P := Tryz.prog) rfl _ _ (w.heap.size + 1) 91 VT.toArray (0, 0) _ rfl HBF.out Tryz.underlying91 rfl HSZ.out) rfl ⟨VT, rfl, ?_, HBB.out⟩
 exact shSite.R_more HRF.out (by omega) (by omega)
end Go.Proofs.YtgnmollbnopigaaGreat
