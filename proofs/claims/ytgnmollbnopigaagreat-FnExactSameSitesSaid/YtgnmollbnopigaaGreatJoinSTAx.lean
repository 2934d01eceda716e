/- Job: walks field by field (to). Printed by gen_big.py. -/
import Derived.Test.YtgnmollbnopigaaGreatJoinSTAt
namespace Go.Proofs.YtgnmollbnopigaaGreat
open Go.RowKit
set_option maxHeartbeats 4000000 in
set_option maxRecDepth 100000 in
theorem toJob_o (X : TyJob) (vs : List Value) (lo hi : Nat) (w : World) (h : shJob.R w lo hi vs X) (hhi : hi ≤ w.heap.size) (hf : shJob.fit 1048576 X) :
  Calls Tryz.prog 128 #[.agg vs.toArray] w fun e w' => ∃ us : List Value, e = .returned (.agg us.toArray) ∧ shJob.R w' w.heap.size w'.heap.size us X ∧ Below w.heap.size w w' := by
 obtain ⟨x0, X1, X2, X3, x4, x5, x6, x7, x8, x9⟩ := X
 obtain ⟨ft0, ft1, ft2, ft3, ft4, ft5, ft6, ft7, ft8, ft9⟩ := hf
 obtain ⟨u0, ru0, eu0, k0, u1, ru1, eu1, k1, u2, ru2, eu2, k2, u3, ru3, eu3, k3, u4, ru4, eu4, k4, u5, ru5, eu5, k5, u6, ru6, eu6, k6, u7, ru7, eu7, k7, u8, ru8, eu8, k8, k9⟩ := h
 generalize ru8 = u9 at *
 obtain rfl := (show u0 = [.int .i64 x0] from k0)
 obtain rfl := (show u4 = [.string x4] from k4)
 have qk5 := k5; obtain ⟨A5, c5, rfl, _⟩ := qk5
 have qk6 := k6; obtain ⟨A6, c6, rfl, _⟩ := qk6
 obtain rfl := (show u7 = [.int .i64 x7] from k7)
 have qk8 := k8; obtain ⟨A8, c8, rfl, _⟩ := qk8
 obtain rfl := (show u9 = [.string x9] from k9)
 have HG := Lib.hid (show ∀ (W : World) (b : Nat) (t : TypeId), Blk W b t vs.toArray → W.cell? ⟨b, 0, none⟩ = some (.int .i64 x0) ∧ W.rangeAt b 1 u1 ∧ W.rangeAt b 22 u2 ∧ W.rangeAt b 25 u3 ∧ W.cell? ⟨b, 46, none⟩ = some (.string x4) ∧ W.cell? ⟨b, 47, none⟩ = some (.slice A5 x5.length c5) ∧ W.cell? ⟨b, 48, none⟩ = some (.slice A6 x6.length c6) ∧ W.cell? ⟨b, 49, none⟩ = some (.int .i64 x7) ∧ W.cell? ⟨b, 50, none⟩ = some (.slice A8 x8.length c8) ∧ W.cell? ⟨b, 51, none⟩ = some (.string x9) from fun W b t hB => by
  have q := blk_all hB
  obtain ⟨p0, q⟩ := rsp eu0 rfl q
  obtain ⟨p1, q⟩ := rsp eu1 (shMachine.R_len k1) q
  obtain ⟨p2, q⟩ := rsp eu2 (shTrans.R_len k2) q
  obtain ⟨p3, q⟩ := rsp eu3 (shMachine.R_len k3) q
  obtain ⟨p4, q⟩ := rsp eu4 rfl q
  obtain ⟨p5, q⟩ := rsp eu5 rfl q
  obtain ⟨p6, q⟩ := rsp eu6 rfl q
  obtain ⟨p7, q⟩ := rsp eu7 rfl q
  obtain ⟨p8, q⟩ := rsp eu8 rfl q
  exact ⟨rng_one p0, p1, p2, p3, rng_one p4, rng_one p5, rng_one p6, rng_one p7, rng_one p8, rng_one q⟩)
 clear eu0 eu1 eu2 eu3 eu4 eu5 eu6 eu7 eu8
 have R0 := ((((((((((Stand.nil w).ad shMachine.R u1 X1 hhi k1 shMachine.R_keep).ad shTrans.R u2 X2 hhi k2 shTrans.R_keep).ad shMachine.R u3 X3 hhi k3 shMachine.R_keep).ad (Sh.row 9 shS).R [.slice A5 x5.length c5] x5 hhi k5 (Sh.row 9 shS).R_keep).ad (Sh.row 231 shLock).R [.slice A6 x6.length c6] x6 hhi k6 (Sh.row 231 shLock).R_keep).ad (Sh.row 9 shS).R [.slice A8 x8.length c8] x8 hhi k8 (Sh.row 9 shS).R_keep).box 216 vs.toArray).box 159 zz15).alloc (.cells zz15 159))
 rw [heap_alloc_size1] at R0
 have HR0 := Lib.hid R0
 have HY0 := Lib.hid (show Blk (((w.alloc (.cells vs.toArray 216)).alloc (.cells zz15 159)).alloc (.cells zz15 159)) (w.heap.size + 1 + 1) 159 ([] ++ ((([.int .i64 0] : List Value) ++ (([.int .i64 0, .int .i64 0, .slice none 0 0, .slice none 0 0, .slice none 0 0, .slice none 0 0, .slice none 0 0, .int .i64 0, .slice none 0 0, .slice none 0 0, .slice none 0 0, .bool false, .bool false, .bool false, .string ⟨#[]⟩, .slice none 0 0, .int .i64 0, .int .i64 0, .int .i64 0, .int .i64 0, .string ⟨#[]⟩] : List Value) ++ (([.int .i64 0, .int .i64 0, .slice none 0 0] : List Value) ++ (([.int .i64 0, .int .i64 0, .slice none 0 0, .slice none 0 0, .slice none 0 0, .slice none 0 0, .slice none 0 0, .int .i64 0, .slice none 0 0, .slice none 0 0, .slice none 0 0, .bool false, .bool false, .bool false, .string ⟨#[]⟩, .slice none 0 0, .int .i64 0, .int .i64 0, .int .i64 0, .int .i64 0, .string ⟨#[]⟩] : List Value) ++ (([.string ⟨#[]⟩] : List Value) ++ (([.slice none 0 0] : List Value) ++ (([.slice none 0 0] : List Value) ++ (([.int .i64 0] : List Value) ++ (([.slice none 0 0] : List Value) ++ (([.string ⟨#[]⟩] : List Value) ++ ([] : List Value))))))))))))).toArray from by
  have := Blk.new ((w.alloc (.cells vs.toArray 216)).alloc (.cells zz15 159)) 159 zz15
  rw [heap_alloc_size1, heap_alloc_size1] at this
  exact this)
 have HZ1 := slH sizeLMachine k1
 have HZ2 := slH sizeLTrans k2
 have HZ3 := slH sizeLMachine k3
 have s0 : (w.heap.size + 1 + 1) + 1 ≤ (((w.alloc (.cells vs.toArray 216)).alloc (.cells zz15 159)).alloc (.cells zz15 159)).heap.size := by simp
 have hp0 : ([] : List Value).length = 0 := rfl
 clear R0 k1 k2 k3 k5 k6 k8
 go_enter Tryz.func128, Tryz.ntmps128
 go_upto_region 2 with fail
 generalize (((w.alloc (.cells vs.toArray 216)).alloc (.cells zz15 159)).alloc (.cells zz15 159)) = W0 at *
 have fx := (HG.out _ _ _ (HR0.out.get 1 rfl)).1
 have fy := blk_cell HY0.out hp0; have zy := HY0.out.frozen 0
 go_upto_region 3 with fail
 clear fx fy zy
 have HR1 := Lib.hid (HR0.out.set1 (g := (w.heap.size + 1 + 1)) (o := 0) (.int .i64 x0) (by omega) (by simp only [fa1, fa2, and_true]; omega))
 have HY1 := Lib.hid (blk_next (blk_put1 HY0.out hp0 (.int .i64 x0)))
 have s1 : (w.heap.size + 1 + 1) + 1 ≤ (W0.setCell ⟨w.heap.size + 1 + 1, 0, none⟩ (.int .i64 x0)).heap.size := by simp [World.setCell]; omega
 have hz1 : W0.heap.size ≤ (W0.setCell ⟨w.heap.size + 1 + 1, 0, none⟩ (.int .i64 x0)).heap.size := by simp [World.setCell]
 have hp1 : (([] : List Value) ++ ([.int .i64 x0] : List Value)).length = 1 := by rw [List.length_append, hp0]; rfl
 generalize W0.setCell ⟨w.heap.size + 1 + 1, 0, none⟩ (.int .i64 x0) = W1 at *
 go_wp2_with (first | fail | (refine wlg w.heap.size 1 u1 (HG.out _ _ _ (HR1.out.get 1 rfl)).2.1 Tryz.underlying212 HZ1.out ?_))
 refine (toMachine_o X1 u1 lo hi _ (HR1.out.get 7 rfl) (HR1.out.le 7 rfl) ft1).mono ?_
 rintro e1 w1 ⟨us1, rfl, ho1, hb1⟩
 have HQ := Lib.hid ((HR1.out.below hb1).add W1.heap.size w1.heap.size (fun W => shMachine.R W W1.heap.size w1.heap.size us1 X1) (fun _ _ hk h => shMachine.R_keep h hk) (Nat.le_refl _) ho1)
 have HV := Lib.hid (HY1.out.below hb1 (by omega))
 have hs1 := hb1.size
 have hlu : us1.length = 21 := shMachine.R_len ho1
 have HTH := Lib.hid (there_mid (n := us1.toArray.size) HV.out hp1 (by rw [List.size_toArray, hlu]; rfl))
 have HSZ := saH sizeIMachine ho1
 have HON := Lib.hid (all_oneCell_toArray (shMachine.R_one ho1))
 clear hb1 ho1 HR1 HY1
 go_upto_region 4 with (first | fail | (refine wpList_store_mid rfl _ _ _ rfl (w.heap.size + 1 + 1) 1 us1.toArray rfl rfl HTH.out HSZ.out HON.out ?_))
 have HR2 := Lib.hid (HQ.out.out (g := (w.heap.size + 1 + 1)) (setCells_out (w.heap.size + 1 + 1) us1 1 w1).1 (by omega) (by simp only [fa1, fa2, and_true]; omega))
 have HY2 := Lib.hid (blk_next (blk_put us1 _ _ _ w1 1 HV.out hp1 (by rw [hlu]; rfl)))
 have hp2 : ((([] : List Value) ++ ([.int .i64 x0] : List Value)) ++ us1).length = 22 := by rw [List.length_append, hp1, hlu]
 clear HTH HSZ HON hlu
 have s2 : (w.heap.size + 1 + 1) + 1 ≤ (w1.setCells (w.heap.size + 1 + 1) 1 us1).heap.size := by rw [(setCells_out _ _ _ _).2]; omega
 have hz2 : w1.heap.size ≤ (w1.setCells (w.heap.size + 1 + 1) 1 us1).heap.size := by rw [(setCells_out _ _ _ _).2]; exact Nat.le_refl _
 clear HQ HV
 generalize w1.setCells (w.heap.size + 1 + 1) 1 us1 = W2 at *
 go_wp2_with (first | fail | (refine wlg w.heap.size 22 u2 (HG.out _ _ _ (HR2.out.get 2 rfl)).2.2.1 Tryz.underlying214 HZ2.out ?_))
 refine (toTrans_o X2 u2 lo hi _ (HR2.out.get 7 rfl) (HR2.out.le 7 rfl) ft2).mono ?_
 rintro e2 w2 ⟨us2, rfl, ho2, hb2⟩
 have HQ := Lib.hid ((HR2.out.below hb2).add W2.heap.size w2.heap.size (fun W => shTrans.R W W2.heap.size w2.heap.size us2 X2) (fun _ _ hk h => shTrans.R_keep h hk) (Nat.le_refl _) ho2)
 have HV := Lib.hid (HY2.out.below hb2 (by omega))
 have hs2 := hb2.size
 have hlu : us2.length = 3 := shTrans.R_len ho2
 have HTH := Lib.hid (there_mid (n := us2.toArray.size) HV.out hp2 (by rw [List.size_toArray, hlu]; rfl))
 have HSZ := saH sizeITrans ho2
 have HON := Lib.hid (all_oneCell_toArray (shTrans.R_one ho2))
 clear hb2 ho2 HR2 HY2
 go_upto_region 5 with (first | fail | (refine wpList_store_mid rfl _ _ _ rfl (w.heap.size + 1 + 1) 22 us2.toArray rfl rfl HTH.out HSZ.out HON.out ?_))
 have HR3 := Lib.hid (HQ.out.out (g := (w.heap.size + 1 + 1)) (setCells_out (w.heap.size + 1 + 1) us2 22 w2).1 (by omega) (by simp only [fa1, fa2, and_true]; omega))
 have HY3 := Lib.hid (blk_next (blk_put us2 _ _ _ w2 22 HV.out hp2 (by rw [hlu]; rfl)))
 have hp3 : (((([] : List Value) ++ ([.int .i64 x0] : List Value)) ++ us1) ++ us2).length = 25 := by rw [List.length_append, hp2, hlu]
 clear HTH HSZ HON hlu
 have s3 : (w.heap.size + 1 + 1) + 1 ≤ (w2.setCells (w.heap.size + 1 + 1) 22 us2).heap.size := by rw [(setCells_out _ _ _ _).2]; omega
 have hz3 : w2.heap.size ≤ (w2.setCells (w.heap.size + 1 + 1) 22 us2).heap.size := by rw [(setCells_out _ _ _ _).2]; exact Nat.le_refl _
 clear HQ HV
 generalize w2.setCells (w.heap.size + 1 + 1) 22 us2 = W3 at *
 go_wp2_with (first | fail | (refine wlg w.heap.size 25 u3 (HG.out _ _ _ (HR3.out.get 3 rfl)).2.2.2.1 Tryz.underlying212 HZ3.out ?_))
 refine (toMachine_o X3 u3 lo hi _ (HR3.out.get 7 rfl) (HR3.out.le 7 rfl) ft3).mono ?_
 rintro e3 w3 ⟨us3, rfl, ho3, hb3⟩
 have HQ := Lib.hid ((HR3.out.below hb3).add W3.heap.size w3.heap.size (fun W => shMachine.R W W3.heap.size w3.heap.size us3 X3) (fun _ _ hk h => shMachine.R_keep h hk) (Nat.le_refl _) ho3)
 have HV := Lib.hid (HY3.out.below hb3 (by omega))
 have hs3 := hb3.size
 have hlu : us3.length = 21 := shMachine.R_len ho3
 have HTH := Lib.hid (there_mid (n := us3.toArray.size) HV.out hp3 (by rw [List.size_toArray, hlu]; rfl))
 have HSZ := saH sizeIMachine ho3
 have HON := Lib.hid (all_oneCell_toArray (shMachine.R_one ho3))
 clear hb3 ho3 HR3 HY3
 go_upto_region 6 with (first | fail | (refine wpList_store_mid rfl _ _ _ rfl (w.heap.size + 1 + 1) 25 us3.toArray rfl rfl HTH.out HSZ.out HON.out ?_))
 have HR4 := Lib.hid (HQ.out.out (g := (w.heap.size + 1 + 1)) (setCells_out (w.heap.size + 1 + 1) us3 25 w3).1 (by omega) (by simp only [fa1, fa2, and_true]; omega))
 have HY4 := Lib.hid (blk_next (blk_put us3 _ _ _ w3 25 HV.out hp3 (by rw [hlu]; rfl)))
 have hp4 : ((((([] : List Value) ++ ([.int .i64 x0] : List Value)) ++ us1) ++ us2) ++ us3).length = 46 := by rw [List.length_append, hp3, hlu]
 clear HTH HSZ HON hlu
 have s4 : (w.heap.size + 1 + 1) + 1 ≤ (w3.setCells (w.heap.size + 1 + 1) 25 us3).heap.size := by rw [(setCells_out _ _ _ _).2]; omega
 have hz4 : w3.heap.size ≤ (w3.setCells (w.heap.size + 1 + 1) 25 us3).heap.size := by rw [(setCells_out _ _ _ _).2]; exact Nat.le_refl _
 clear HQ HV
 generalize w3.setCells (w.heap.size + 1 + 1) 25 us3 = W4 at *
 have fx := (HG.out _ _ _ (HR4.out.get 4 rfl)).2.2.2.2.1
 have fy := blk_cell HY4.out hp4; have zy := HY4.out.frozen 46
 go_upto_region 7 with fail
 clear fx fy zy
 have HR5 := Lib.hid (HR4.out.set1 (g := (w.heap.size + 1 + 1)) (o := 46) (.string x4) (by omega) (by simp only [fa1, fa2, and_true]; omega))
 have HY5 := Lib.hid (blk_next (blk_put1 HY4.out hp4 (.string x4)))
 have s5 : (w.heap.size + 1 + 1) + 1 ≤ (W4.setCell ⟨w.heap.size + 1 + 1, 46, none⟩ (.string x4)).heap.size := by simp [World.setCell]; omega
 have hz5 : W4.heap.size ≤ (W4.setCell ⟨w.heap.size + 1 + 1, 46, none⟩ (.string x4)).heap.size := by simp [World.setCell]
 have hp5 : (((((([] : List Value) ++ ([.int .i64 x0] : List Value)) ++ us1) ++ us2) ++ us3) ++ ([.string x4] : List Value)).length = 47 := by rw [List.length_append, hp4]; rfl
 generalize W4.setCell ⟨w.heap.size + 1 + 1, 46, none⟩ (.string x4) = W5 at *
 have fx := (HG.out _ _ _ (HR5.out.get 4 rfl)).2.2.2.2.2.1
 go_wp2_with fail
 clear fx
 refine (toStringS_f A5 c5 x5 lo hi _ (HR5.out.get 7 rfl) (HR5.out.le 7 rfl) ft5).mono ?_
 rintro e5 w5 ⟨B5, d5, rfl, ho5, hb5⟩
 have HQ := Lib.hid ((HR5.out.below hb5).add W5.heap.size w5.heap.size (fun W => (Sh.row 9 shS).R W W5.heap.size w5.heap.size ([.slice B5 x5.length d5] : List Value) x5) (fun _ _ hk h => (Sh.row 9 shS).R_keep h hk) (Nat.le_refl _) ho5.reads)
 have HV := Lib.hid (HY5.out.below hb5 (by omega))
 have hs5 := hb5.size
 have fy := blk_cell HV.out hp5; have zy := HV.out.frozen 47
 clear hb5 ho5 HR5 HY5
 go_upto_region 8 with fail
 clear fy zy
 have HR6 := Lib.hid (HQ.out.set1 (g := (w.heap.size + 1 + 1)) (o := 47) (.slice B5 x5.length d5) (by omega) (by simp only [fa1, fa2, and_true]; omega))
 have HY6 := Lib.hid (blk_next (blk_put1 HV.out hp5 (.slice B5 x5.length d5)))
 have hp6 : ((((((([] : List Value) ++ ([.int .i64 x0] : List Value)) ++ us1) ++ us2) ++ us3) ++ ([.string x4] : List Value)) ++ ([.slice B5 x5.length d5] : List Value)).length = 48 := by rw [List.length_append, hp5]; rfl
 have s6 : (w.heap.size + 1 + 1) + 1 ≤ (w5.setCell ⟨w.heap.size + 1 + 1, 47, none⟩ (.slice B5 x5.length d5)).heap.size := by simp [World.setCell]; omega
 have hz6 : w5.heap.size ≤ (w5.setCell ⟨w.heap.size + 1 + 1, 47, none⟩ (.slice B5 x5.length d5)).heap.size := by simp [World.setCell]
 clear HQ HV
 generalize w5.setCell ⟨w.heap.size + 1 + 1, 47, none⟩ (.slice B5 x5.length d5) = W6 at *
 have fx := (HG.out _ _ _ (HR6.out.get 5 rfl)).2.2.2.2.2.2.1
 go_wp2_with fail
 clear fx
 refine (toLockS_f A6 c6 x6 lo hi _ (HR6.out.get 7 rfl) (HR6.out.le 7 rfl) ft6).mono ?_
 rintro e6 w6 ⟨B6, d6, rfl, ho6, hb6⟩
 have HQ := Lib.hid ((HR6.out.below hb6).add W6.heap.size w6.heap.size (fun W => (Sh.row 231 shLock).R W W6.heap.size w6.heap.size ([.slice B6 x6.length d6] : List Value) x6) (fun _ _ hk h => (Sh.row 231 shLock).R_keep h hk) (Nat.le_refl _) ho6.reads)
 have HV := Lib.hid (HY6.out.below hb6 (by omega))
 have hs6 := hb6.size
 have fy := blk_cell HV.out hp6; have zy := HV.out.frozen 48
 clear hb6 ho6 HR6 HY6
 go_upto_region 9 with fail
 clear fy zy
 have HR7 := Lib.hid (HQ.out.set1 (g := (w.heap.size + 1 + 1)) (o := 48) (.slice B6 x6.length d6) (by omega) (by simp only [fa1, fa2, and_true]; omega))
 have HY7 := Lib.hid (blk_next (blk_put1 HV.out hp6 (.slice B6 x6.length d6)))
 have hp7 : (((((((([] : List Value) ++ ([.int .i64 x0] : List Value)) ++ us1) ++ us2) ++ us3) ++ ([.string x4] : List Value)) ++ ([.slice B5 x5.length d5] : List Value)) ++ ([.slice B6 x6.length d6] : List Value)).length = 49 := by rw [List.length_append, hp6]; rfl
 have s7 : (w.heap.size + 1 + 1) + 1 ≤ (w6.setCell ⟨w.heap.size + 1 + 1, 48, none⟩ (.slice B6 x6.length d6)).heap.size := by simp [World.setCell]; omega
 have hz7 : w6.heap.size ≤ (w6.setCell ⟨w.heap.size + 1 + 1, 48, none⟩ (.slice B6 x6.length d6)).heap.size := by simp [World.setCell]
 clear HQ HV
 generalize w6.setCell ⟨w.heap.size + 1 + 1, 48, none⟩ (.slice B6 x6.length d6) = W7 at *
 have fx := (HG.out _ _ _ (HR7.out.get 6 rfl)).2.2.2.2.2.2.2.1
 have fy := blk_cell HY7.out hp7; have zy := HY7.out.frozen 49
 go_upto_region 10 with fail
 clear fx fy zy
 have HR8 := Lib.hid (HR7.out.set1 (g := (w.heap.size + 1 + 1)) (o := 49) (.int .i64 x7) (by omega) (by simp only [fa1, fa2, and_true]; omega))
 have HY8 := Lib.hid (blk_next (blk_put1 HY7.out hp7 (.int .i64 x7)))
 have s8 : (w.heap.size + 1 + 1) + 1 ≤ (W7.setCell ⟨w.heap.size + 1 + 1, 49, none⟩ (.int .i64 x7)).heap.size := by simp [World.setCell]; omega
 have hz8 : W7.heap.size ≤ (W7.setCell ⟨w.heap.size + 1 + 1, 49, none⟩ (.int .i64 x7)).heap.size := by simp [World.setCell]
 have hp8 : ((((((((([] : List Value) ++ ([.int .i64 x0] : List Value)) ++ us1) ++ us2) ++ us3) ++ ([.string x4] : List Value)) ++ ([.slice B5 x5.length d5] : List Value)) ++ ([.slice B6 x6.length d6] : List Value)) ++ ([.int .i64 x7] : List Value)).length = 50 := by rw [List.length_append, hp7]; rfl
 generalize W7.setCell ⟨w.heap.size + 1 + 1, 49, none⟩ (.int .i64 x7) = W8 at *
 have fx := (HG.out _ _ _ (HR8.out.get 6 rfl)).2.2.2.2.2.2.2.2.1
 go_wp2_with fail
 clear fx
 refine (toStringS_f A8 c8 x8 lo hi _ (HR8.out.get 7 rfl) (HR8.out.le 7 rfl) ft8).mono ?_
 rintro e8 w8 ⟨B8, d8, rfl, ho8, hb8⟩
 have HQ := Lib.hid ((HR8.out.below hb8).add W8.heap.size w8.heap.size (fun W => (Sh.row 9 shS).R W W8.heap.size w8.heap.size ([.slice B8 x8.length d8] : List Value) x8) (fun _ _ hk h => (Sh.row 9 shS).R_keep h hk) (Nat.le_refl _) ho8.reads)
 have HV := Lib.hid (HY8.out.below hb8 (by omega))
 have hs8 := hb8.size
 have fy := blk_cell HV.out hp8; have zy := HV.out.frozen 50
 clear hb8 ho8 HR8 HY8
 go_upto_region 11 with fail
 clear fy zy
 have HR9 := Lib.hid (HQ.out.set1 (g := (w.heap.size + 1 + 1)) (o := 50) (.slice B8 x8.length d8) (by omega) (by simp only [fa1, fa2, and_true]; omega))
 have HY9 := Lib.hid (blk_next (blk_put1 HV.out hp8 (.slice B8 x8.length d8)))
 have hp9 : (((((((((([] : List Value) ++ ([.int .i64 x0] : List Value)) ++ us1) ++ us2) ++ us3) ++ ([.string x4] : List Value)) ++ ([.slice B5 x5.length d5] : List Value)) ++ ([.slice B6 x6.length d6] : List Value)) ++ ([.int .i64 x7] : List Value)) ++ ([.slice B8 x8.length d8] : List Value)).length = 51 := by rw [List.length_append, hp8]; rfl
 have s9 : (w.heap.size + 1 + 1) + 1 ≤ (w8.setCell ⟨w.heap.size + 1 + 1, 50, none⟩ (.slice B8 x8.length d8)).heap.size := by simp [World.setCell]; omega
 have hz9 : w8.heap.size ≤ (w8.setCell ⟨w.heap.size + 1 + 1, 50, none⟩ (.slice B8 x8.length d8)).heap.size := by simp [World.setCell]
 clear HQ HV
 generalize w8.setCell ⟨w.heap.size + 1 + 1, 50, none⟩ (.slice B8 x8.length d8) = W9 at *
 have fx := (HG.out _ _ _ (HR9.out.get 7 rfl)).2.2.2.2.2.2.2.2.2
 have fy := blk_cell HY9.out hp9; have zy := HY9.out.frozen 51
 go_upto_region 12 with fail
 clear fx fy zy
 have HR10 := Lib.hid (HR9.out.set1 (g := (w.heap.size + 1 + 1)) (o := 51) (.string x9) (by omega) (by simp only [fa1, fa2, and_true]; omega))
 have HY10 := Lib.hid (blk_next (blk_put1 HY9.out hp9 (.string x9)))
 have s10 : (w.heap.size + 1 + 1) + 1 ≤ (W9.setCell ⟨w.heap.size + 1 + 1, 51, none⟩ (.string x9)).heap.size := by simp [World.setCell]; omega
 have hz10 : W9.heap.size ≤ (W9.setCell ⟨w.heap.size + 1 + 1, 51, none⟩ (.string x9)).heap.size := by simp [World.setCell]
 have hp10 : ((((((((((([] : List Value) ++ ([.int .i64 x0] : List Value)) ++ us1) ++ us2) ++ us3) ++ ([.string x4] : List Value)) ++ ([.slice B5 x5.length d5] : List Value)) ++ ([.slice B6 x6.length d6] : List Value)) ++ ([.int .i64 x7] : List Value)) ++ ([.slice B8 x8.length d8] : List Value)) ++ ([.string x9] : List Value)).length = 52 := by rw [List.length_append, hp9]; rfl
 generalize W9.setCell ⟨w.heap.size + 1 + 1, 51, none⟩ (.string x9) = W10 at *
 have HRT := Lib.hid (show shJob.R W10 ((w.heap.size + 1 + 1) + 1) W10.heap.size ((([.int .i64 x0] : List Value) ++ (us1 ++ (us2 ++ (us3 ++ (([.string x4] : List Value) ++ (([.slice B5 x5.length d5] : List Value) ++ (([.slice B6 x6.length d6] : List Value) ++ (([.int .i64 x7] : List Value) ++ (([.slice B8 x8.length d8] : List Value) ++ ([.string x9] : List Value))))))))))) (x0, X1, X2, X3, x4, x5, x6, x7, x8, x9) from ⟨_, _, rfl, rfl, ⟨_, _, rfl, (shMachine.R_more (HR10.out.get 5 rfl) (by omega) (by omega)), ⟨_, _, rfl, (shTrans.R_more (HR10.out.get 4 rfl) (by omega) (by omega)), ⟨_, _, rfl, (shMachine.R_more (HR10.out.get 3 rfl) (by omega) (by omega)), ⟨_, _, rfl, rfl, ⟨_, _, rfl, ((Sh.row 9 shS).R_more (HR10.out.get 2 rfl) (by omega) (by omega)), ⟨_, _, rfl, ((Sh.row 231 shLock).R_more (HR10.out.get 1 rfl) (by omega) (by omega)), ⟨_, _, rfl, rfl, ⟨_, _, rfl, ((Sh.row 9 shS).R_more (HR10.out.get 0 rfl) (by omega) (by omega)), rfl⟩⟩⟩⟩⟩⟩⟩⟩⟩)
 have HYF := Lib.hid (show Blk W10 (w.heap.size + 1 + 1) 159 ((([.int .i64 x0] : List Value) ++ (us1 ++ (us2 ++ (us3 ++ (([.string x4] : List Value) ++ (([.slice B5 x5.length d5] : List Value) ++ (([.slice B6 x6.length d6] : List Value) ++ (([.int .i64 x7] : List Value) ++ (([.slice B8 x8.length d8] : List Value) ++ ([.string x9] : List Value))))))))))).toArray from by have := HY10.out; simpa only [List.append_assoc, List.nil_append, List.append_nil] using this)
 have HLN : ((([.int .i64 x0] : List Value) ++ (us1 ++ (us2 ++ (us3 ++ (([.string x4] : List Value) ++ (([.slice B5 x5.length d5] : List Value) ++ (([.slice B6 x6.length d6] : List Value) ++ (([.int .i64 x7] : List Value) ++ (([.slice B8 x8.length d8] : List Value) ++ ([.string x9] : List Value))))))))))).length = 52 := by have := hp10; simpa only [List.append_assoc, List.nil_append, List.append_nil] using this
 generalize ((([.int .i64 x0] : List Value) ++ (us1 ++ (us2 ++ (us3 ++ (([.string x4] : List Value) ++ (([.slice B5 x5.length d5] : List Value) ++ (([.slice B6 x6.length d6] : List Value) ++ (([.int .i64 x7] : List Value) ++ (([.slice B8 x8.length d8] : List Value) ++ ([.string x9] : List Value))))))))))) = VT at *
 have HONE := Lib.hid (shJob.R_one HRT.out)
 have HSZ := Lib.hid (size_arr (P := Tryz.prog) sizeIJob HRT.out)
 have HOL := Lib.hid (show (zz15 : Array Value).size = VT.toArray.size from Eq.trans (b := 52) rfl ((List.size_toArray ..).trans HLN).symm)
 have HRZ := Lib.hid (HR10.out.get 6 rfl)
 have HBE := Lib.hid HR10.out.1
 clear HR10 HY10 hp0 hp1 hp2 hp3 hp4 hp5 hp6 hp7 hp8 hp9 hp10
 refine wp_region_list ?_
 refine wpList_loadAll rfl 159 (.tmp 3) rfl (w.heap.size + 1 + 1) rfl HYF.out Tryz.underlying159 rfl HSZ.out ?_
 simp only [Go.Act.put, za, zb, zc]
 refine wpList_storeAll rfl 159 (.tmp 2) _ rfl (w.heap.size + 1) VT.toArray rfl rfl HRZ.out HSZ.out HOL.out HONE.out ?_
 intro wF hbF hoF hzF
 have HBF := Lib.hid hbF
 have HRF := Lib.hid (shJob.R_keep HRT.out (fun b q1 q2 => hoF.block b (by omega) (by simp; omega)))
 have HBB := Lib.hid (HBE.out.trans (hoF.below1 (by omega) (by omega)))
 clear hbF hoF HRT HYF HONE HRZ HBE HOL
 go_wp2_with fail
 refine bodyPost_ret (results_cell_row (P := Tryz.prog) rfl _ _ (w.heap.size + 1) 159 VT.toArray (0, 0) _ rfl HBF.out Tryz.underlying159 rfl HSZ.out) rfl ⟨VT, rfl, ?_, HBB.out⟩
 exact shJob.R_more HRF.out (by omega) (by omega)
end Go.Proofs.YtgnmollbnopigaaGreat
