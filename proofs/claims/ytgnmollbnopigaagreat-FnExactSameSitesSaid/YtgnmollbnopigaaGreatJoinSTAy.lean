/- Cache, Base: walks field by field (to). Printed by gen_big.py. -/
import Derived.Test.YtgnmollbnopigaaGreatJoinSTAt
set_option maxHeartbeats 16000000
set_option maxRecDepth 100000
namespace Go.Proofs.YtgnmollbnopigaaGreat
open Go.RowKit
theorem toCache_o (X : TyCache) (vs : List Value) (lo hi : Nat) (w : World) (h : shCache.R w lo hi vs X) (hhi : hi ≤ w.heap.size) (hf : shCache.fit 1048576 X) :
  Calls Tryz.prog 68 #[.agg vs.toArray] w fun e w' => ∃ us : List Value, e = .returned (.agg us.toArray) ∧ shCache.R w' w.heap.size w'.heap.size us X ∧ Below w.heap.size w w' := by
 obtain ⟨X0, X1, X2, x3, x4⟩ := X
 obtain ⟨ft0, ft1, ft2, ft3, ft4⟩ := hf
 obtain ⟨u0, ru0, eu0, k0, u1, ru1, eu1, k1, u2, ru2, eu2, k2, u3, ru3, eu3, k3, k4⟩ := h
 generalize ru3 = u4 at *
 have qk3 := k3; obtain ⟨A3, c3, rfl, _⟩ := qk3
 have qk4 := k4; obtain ⟨A4, c4, rfl, _⟩ := qk4
 have HG := Lib.hid (show ∀ (W : World) (b : Nat) (t : TypeId), Blk W b t vs.toArray → W.rangeAt b 0 u0 ∧ W.rangeAt b 3 u1 ∧ W.rangeAt b 7 u2 ∧ W.cell? ⟨b, 11, none⟩ = some (.slice A3 x3.length c3) ∧ W.cell? ⟨b, 12, none⟩ = some (.slice A4 x4.length c4) from fun W b t hB => by
  have q := blk_all hB
  obtain ⟨p0, q⟩ := rsp eu0 (shDisk.R_len k0) q
  obtain ⟨p1, q⟩ := rsp eu1 (shTop.R_len k1) q
  obtain ⟨p2, q⟩ := rsp eu2 (shTop.R_len k2) q
  obtain ⟨p3, q⟩ := rsp eu3 rfl q
  exact ⟨p0, p1, p2, rng_one p3, rng_one q⟩)
 clear eu0 eu1 eu2 eu3
 have R0 := (((((((((Stand.nil w).ad shDisk.R u0 X0 hhi k0 shDisk.R_keep).ad shTop.R u1 X1 hhi k1 shTop.R_keep).ad shTop.R u2 X2 hhi k2 shTop.R_keep).ad (Sh.row 273 shSeat).R [.slice A3 x3.length c3] x3 hhi k3 (Sh.row 273 shSeat).R_keep).ad (Sh.row 2 shI).R [.slice A4 x4.length c4] x4 hhi k4 (Sh.row 2 shI).R_keep).box 50 vs.toArray).box 85 zz9).alloc (.cells zz9 85))
 rw [heap_alloc_size1] at R0
 have HR0 := Lib.hid R0
 have HY0 := Lib.hid (show Blk (((w.alloc (.cells vs.toArray 50)).alloc (.cells zz9 85)).alloc (.cells zz9 85)) (w.heap.size + 1 + 1) 85 ([] ++ ((([.int .i64 0, .slice none 0 0, .slice none 0 0] : List Value) ++ (([.int .i64 0, .int .i64 0, .int .i64 0, .slice none 0 0] : List Value) ++ (([.int .i64 0, .int .i64 0, .int .i64 0, .slice none 0 0] : List Value) ++ (([.slice none 0 0] : List Value) ++ (([.slice none 0 0] : List Value) ++ ([] : List Value)))))))).toArray from by
  have := Blk.new ((w.alloc (.cells vs.toArray 50)).alloc (.cells zz9 85)) 85 zz9
  rw [heap_alloc_size1, heap_alloc_size1] at this
  exact this)
 have HZ0 := slH sizeLDisk k0
 have HZ1 := slH sizeLTop k1
 have HZ2 := slH sizeLTop k2
 have s0 : (w.heap.size + 1 + 1) + 1 ≤ (((w.alloc (.cells vs.toArray 50)).alloc (.cells zz9 85)).alloc (.cells zz9 85)).heap.size := by simp
 have hp0 : ([] : List Value).length = 0 := rfl
 clear R0 k0 k1 k2 k3 k4
 go_enter Tryz.func68, Tryz.ntmps68
 go_upto_region 2 with fail
 generalize (((w.alloc (.cells vs.toArray 50)).alloc (.cells zz9 85)).alloc (.cells zz9 85)) = W0 at *
 go_wp2_with (first | fail | (refine wlg w.heap.size 0 u0 (HG.out _ _ _ (HR0.out.get 1 rfl)).1 Tryz.underlying44 HZ0.out ?_))
 refine (toDisk_o X0 u0 lo hi _ (HR0.out.get 6 rfl) (HR0.out.le 6 rfl) ft0).mono ?_
 rintro e0 w0 ⟨us0, rfl, ho0, hb0⟩
 have HQ := Lib.hid ((HR0.out.below hb0).add W0.heap.size w0.heap.size (fun W => shDisk.R W W0.heap.size w0.heap.size us0 X0) (fun _ _ hk h => shDisk.R_keep h hk) (Nat.le_refl _) ho0)
 have HV := Lib.hid (HY0.out.below hb0 (by omega))
 have hs0 := hb0.size
 have hlu : us0.length = 3 := shDisk.R_len ho0
 have HTH := Lib.hid (there_mid (n := us0.toArray.size) HV.out hp0 (by rw [List.size_toArray, hlu]; rfl))
 have HSZ := saH sizeIDisk ho0
 have HON := Lib.hid (all_oneCell_toArray (shDisk.R_one ho0))
 clear hb0 ho0 HR0 HY0
 go_upto_region 3 with (first | fail | (refine wpList_store_mid rfl _ _ _ rfl (w.heap.size + 1 + 1) 0 us0.toArray rfl rfl HTH.out HSZ.out HON.out ?_))
 have HR1 := Lib.hid (HQ.out.out (g := (w.heap.size + 1 + 1)) (setCells_out (w.heap.size + 1 + 1) us0 0 w0).1 (by omega) (by simp only [fa1, fa2, and_true]; omega))
 have HY1 := Lib.hid (blk_next (blk_put us0 _ _ _ w0 0 HV.out hp0 (by rw [hlu]; rfl)))
 have hp1 : (([] : List Value) ++ us0).length = 3 := by rw [List.length_append, hp0, hlu]
 clear HTH HSZ HON hlu
 have s1 : (w.heap.size + 1 + 1) + 1 ≤ (w0.setCells (w.heap.size + 1 + 1) 0 us0).heap.size := by rw [(setCells_out _ _ _ _).2]; omega
 have hz1 : w0.heap.size ≤ (w0.setCells (w.heap.size + 1 + 1) 0 us0).heap.size := by rw [(setCells_out _ _ _ _).2]; exact Nat.le_refl _
 clear HQ HV
 generalize w0.setCells (w.heap.size + 1 + 1) 0 us0 = W1 at *
 go_wp2_with (first | fail | (refine wlg w.heap.size 3 u1 (HG.out _ _ _ (HR1.out.get 2 rfl)).2.1 Tryz.underlying47 HZ1.out ?_))
 refine (toTop_o X1 u1 lo hi _ (HR1.out.get 6 rfl) (HR1.out.le 6 rfl) ft1).mono ?_
 rintro e1 w1 ⟨us1, rfl, ho1, hb1⟩
 have HQ := Lib.hid ((HR1.out.below hb1).add W1.heap.size w1.heap.size (fun W => shTop.R W W1.heap.size w1.heap.size us1 X1) (fun _ _ hk h => shTop.R_keep h hk) (Nat.le_refl _) ho1)
 have HV := Lib.hid (HY1.out.below hb1 (by omega))
 have hs1 := hb1.size
 have hlu : us1.length = 4 := shTop.R_len ho1
 have HTH := Lib.hid (there_mid (n := us1.toArray.size) HV.out hp1 (by rw [List.size_toArray, hlu]; rfl))
 have HSZ := saH sizeITop ho1
 have HON := Lib.hid (all_oneCell_toArray (shTop.R_one ho1))
 clear hb1 ho1 HR1 HY1
 go_upto_region 4 with (first | fail | (refine wpList_store_mid rfl _ _ _ rfl (w.heap.size + 1 + 1) 3 us1.toArray rfl rfl HTH.out HSZ.out HON.out ?_))
 have HR2 := Lib.hid (HQ.out.out (g := (w.heap.size + 1 + 1)) (setCells_out (w.heap.size + 1 + 1) us1 3 w1).1 (by omega) (by simp only [fa1, fa2, and_true]; omega))
 have HY2 := Lib.hid (blk_next (blk_put us1 _ _ _ w1 3 HV.out hp1 (by rw [hlu]; rfl)))
 have hp2 : ((([] : List Value) ++ us0) ++ us1).length = 7 := by rw [List.length_append, hp1, hlu]
 clear HTH HSZ HON hlu
 have s2 : (w.heap.size + 1 + 1) + 1 ≤ (w1.setCells (w.heap.size + 1 + 1) 3 us1).heap.size := by rw [(setCells_out _ _ _ _).2]; omega
 have hz2 : w1.heap.size ≤ (w1.setCells (w.heap.size + 1 + 1) 3 us1).heap.size := by rw [(setCells_out _ _ _ _).2]; exact Nat.le_refl _
 clear HQ HV
 generalize w1.setCells (w.heap.size + 1 + 1) 3 us1 = W2 at *
 go_wp2_with (first | fail | (refine wlg w.heap.size 7 u2 (HG.out _ _ _ (HR2.out.get 3 rfl)).2.2.1 Tryz.underlying47 HZ2.out ?_))
 refine (toTop_o X2 u2 lo hi _ (HR2.out.get 6 rfl) (HR2.out.le 6 rfl) ft2).mono ?_
 rintro e2 w2 ⟨us2, rfl, ho2, hb2⟩
 have HQ := Lib.hid ((HR2.out.below hb2).add W2.heap.size w2.heap.size (fun W => shTop.R W W2.heap.size w2.heap.size us2 X2) (fun _ _ hk h => shTop.R_keep h hk) (Nat.le_refl _) ho2)
 have HV := Lib.hid (HY2.out.below hb2 (by omega))
 have hs2 := hb2.size
 have hlu : us2.length = 4 := shTop.R_len ho2
 have HTH := Lib.hid (there_mid (n := us2.toArray.size) HV.out hp2 (by rw [List.size_toArray, hlu]; rfl))
 have HSZ := saH sizeITop ho2
 have HON := Lib.hid (all_oneCell_toArray (shTop.R_one ho2))
 clear hb2 ho2 HR2 HY2
 go_upto_region 5 with (first | fail | (refine wpList_store_mid rfl _ _ _ rfl (w.heap.size + 1 + 1) 7 us2.toArray rfl rfl HTH.out HSZ.out HON.out ?_))
 have HR3 := Lib.hid (HQ.out.out (g := (w.heap.size + 1 + 1)) (setCells_out (w.heap.size + 1 + 1) us2 7 w2).1 (by omega) (by simp only [fa1, fa2, and_true]; omega))
 have HY3 := Lib.hid (blk_next (blk_put us2 _ _ _ w2 7 HV.out hp2 (by rw [hlu]; rfl)))
 have hp3 : (((([] : List Value) ++ us0) ++ us1) ++ us2).length = 11 := by rw [List.length_append, hp2, hlu]
 clear HTH HSZ HON hlu
 have s3 : (w.heap.size + 1 + 1) + 1 ≤ (w2.setCells (w.heap.size + 1 + 1) 7 us2).heap.size := by rw [(setCells_out _ _ _ _).2]; omega
 have hz3 : w2.heap.size ≤ (w2.setCells (w.heap.size + 1 + 1) 7 us2).heap.size := by rw [(setCells_out _ _ _ _).2]; exact Nat.le_refl _
 clear HQ HV
 generalize w2.setCells (w.heap.size + 1 + 1) 7 us2 = W3 at *
 have fx := (HG.out _ _ _ (HR3.out.get 4 rfl)).2.2.2.1
 go_wp2_with fail
 clear fx
 refine (toSeatS_f A3 c3 x3 lo hi _ (HR3.out.get 6 rfl) (HR3.out.le 6 rfl) ft3).mono ?_
 rintro e3 w3 ⟨B3, d3, rfl, ho3, hb3⟩
 have HQ := Lib.hid ((HR3.out.below hb3).add W3.heap.size w3.heap.size (fun W => (Sh.row 273 shSeat).R W W3.heap.size w3.heap.size ([.slice B3 x3.length d3] : List Value) x3) (fun _ _ hk h => (Sh.row 273 shSeat).R_keep h hk) (Nat.le_refl _) ho3.reads)
 have HV := Lib.hid (HY3.out.below hb3 (by omega))
 have hs3 := hb3.size
 have fy := blk_cell HV.out hp3; have zy := HV.out.frozen 11
 clear hb3 ho3 HR3 HY3
 go_upto_region 6 with fail
 clear fy zy
 have HR4 := Lib.hid (HQ.out.set1 (g := (w.heap.size + 1 + 1)) (o := 11) (.slice B3 x3.length d3) (by omega) (by simp only [fa1, fa2, and_true]; omega))
 have HY4 := Lib.hid (blk_next (blk_put1 HV.out hp3 (.slice B3 x3.length d3)))
 have hp4 : ((((([] : List Value) ++ us0) ++ us1) ++ us2) ++ ([.slice B3 x3.length d3] : List Value)).length = 12 := by rw [List.length_append, hp3]; rfl
 have s4 : (w.heap.size + 1 + 1) + 1 ≤ (w3.setCell ⟨w.heap.size + 1 + 1, 11, none⟩ (.slice B3 x3.length d3)).heap.size := by simp [World.setCell]; omega
 have hz4 : w3.heap.size ≤ (w3.setCell ⟨w.heap.size + 1 + 1, 11, none⟩ (.slice B3 x3.length d3)).heap.size := by simp [World.setCell]
 clear HQ HV
 generalize w3.setCell ⟨w.heap.size + 1 + 1, 11, none⟩ (.slice B3 x3.length d3) = W4 at *
 have fx := (HG.out _ _ _ (HR4.out.get 5 rfl)).2.2.2.2
 go_wp2_with fail
 clear fx
 refine (toInt64S_f A4 c4 x4 lo hi _ (HR4.out.get 6 rfl) (HR4.out.le 6 rfl) ft4).mono ?_
 rintro e4 w4 ⟨B4, d4, rfl, ho4, hb4⟩
 have HQ := Lib.hid ((HR4.out.below hb4).add W4.heap.size w4.heap.size (fun W => (Sh.row 2 shI).R W W4.heap.size w4.heap.size ([.slice B4 x4.length d4] : List Value) x4) (fun _ _ hk h => (Sh.row 2 shI).R_keep h hk) (Nat.le_refl _) ho4.reads)
 have HV := Lib.hid (HY4.out.below hb4 (by omega))
 have hs4 := hb4.size
 have fy := blk_cell HV.out hp4; have zy := HV.out.frozen 12
 clear hb4 ho4 HR4 HY4
 go_upto_region 7 with fail
 clear fy zy
 have HR5 := Lib.hid (HQ.out.set1 (g := (w.heap.size + 1 + 1)) (o := 12) (.slice B4 x4.length d4) (by omega) (by simp only [fa1, fa2, and_true]; omega))
 have HY5 := Lib.hid (blk_next (blk_put1 HV.out hp4 (.slice B4 x4.length d4)))
 have hp5 : (((((([] : List Value) ++ us0) ++ us1) ++ us2) ++ ([.slice B3 x3.length d3] : List Value)) ++ ([.slice B4 x4.length d4] : List Value)).length = 13 := by rw [List.length_append, hp4]; rfl
 have s5 : (w.heap.size + 1 + 1) + 1 ≤ (w4.setCell ⟨w.heap.size + 1 + 1, 12, none⟩ (.slice B4 x4.length d4)).heap.size := by simp [World.setCell]; omega
 have hz5 : w4.heap.size ≤ (w4.setCell ⟨w.heap.size + 1 + 1, 12, none⟩ (.slice B4 x4.length d4)).heap.size := by simp [World.setCell]
 clear HQ HV
 generalize w4.setCell ⟨w.heap.size + 1 + 1, 12, none⟩ (.slice B4 x4.length d4) = W5 at *
 have HRT := Lib.hid (show shCache.R W5 ((w.heap.size + 1 + 1) + 1) W5.heap.size ((us0 ++ (us1 ++ (us2 ++ (([.slice B3 x3.length d3] : List Value) ++ ([.slice B4 x4.length d4] : List Value)))))) (X0, X1, X2, x3, x4) from ⟨_, _, rfl, (shDisk.R_more (HR5.out.get 4 rfl) (by omega) (by omega)), ⟨_, _, rfl, (shTop.R_more (HR5.out.get 3 rfl) (by omega) (by omega)), ⟨_, _, rfl, (shTop.R_more (HR5.out.get 2 rfl) (by omega) (by omega)), ⟨_, _, rfl, ((Sh.row 273 shSeat).R_more (HR5.out.get 1 rfl) (by omega) (by omega)), ((Sh.row 2 shI).R_more (HR5.out.get 0 rfl) (by omega) (by omega))⟩⟩⟩⟩)
 have HYF := Lib.hid (show Blk W5 (w.heap.size + 1 + 1) 85 ((us0 ++ (us1 ++ (us2 ++ (([.slice B3 x3.length d3] : List Value) ++ ([.slice B4 x4.length d4] : List Value)))))).toArray from by have := HY5.out; simpa only [List.append_assoc, List.nil_append, List.append_nil] using this)
 have HLN : ((us0 ++ (us1 ++ (us2 ++ (([.slice B3 x3.length d3] : List Value) ++ ([.slice B4 x4.length d4] : List Value)))))).length = 13 := by have := hp5; simpa only [List.append_assoc, List.nil_append, List.append_nil] using this
 generalize ((us0 ++ (us1 ++ (us2 ++ (([.slice B3 x3.length d3] : List Value) ++ ([.slice B4 x4.length d4] : List Value)))))) = VT at *
 have HONE := Lib.hid (shCache.R_one HRT.out)
 have HSZ := Lib.hid (size_arr (P := Tryz.prog) sizeICache HRT.out)
 have HOL := Lib.hid (show (zz9 : Array Value).size = VT.toArray.size from Eq.trans (b := 13) rfl ((List.size_toArray ..).trans HLN).symm)
 have HRZ := Lib.hid (HR5.out.get 5 rfl)
 have HBE := Lib.hid HR5.out.1
 clear HR5 HY5 hp0 hp1 hp2 hp3 hp4 hp5
 refine wp_region_list ?_
 refine wpList_loadAll rfl 85 (.tmp 3) rfl (w.heap.size + 1 + 1) rfl HYF.out Tryz.underlying85 rfl HSZ.out ?_
 simp only [Go.Act.put, za, zb, zc]
 refine wpList_storeAll rfl 85 (.tmp 2) _ rfl (w.heap.size + 1) VT.toArray rfl rfl HRZ.out HSZ.out HOL.out HONE.out ?_
 intro wF hbF hoF hzF
 have HBF := Lib.hid hbF
 have HRF := Lib.hid (shCache.R_keep HRT.out (fun b q1 q2 => hoF.block b (by omega) (by simp; omega)))
 have HBB := Lib.hid (HBE.out.trans (hoF.below1 (by omega) (by omega)))
 clear hbF hoF HRT HYF HONE HRZ HBE HOL
 go_wp2_with fail
 refine bodyPost_ret (results_cell_row (P := Tryz.prog) rfl _ _ (w.heap.size + 1) 85 VT.toArray (0, 0) _ rfl HBF.out Tryz.underlying85 rfl HSZ.out) rfl ⟨VT, rfl, ?_, HBB.out⟩
 exact shCache.R_more HRF.out (by omega) (by omega)
theorem toBase_o (X : TyBase) (vs : List Value) (lo hi : Nat) (w : World) (h : shBase.R w lo hi vs X) (hhi : hi ≤ w.heap.size) (hf : shBase.fit 1048576 X) :
  Calls Tryz.prog 24 #[.agg vs.toArray] w fun e w' => ∃ us : List Value, e = .returned (.agg us.toArray) ∧ shBase.R w' w.heap.size w'.heap.size us X ∧ Below w.heap.size w w' := by
 obtain ⟨X0, X1, X2, x3, x4⟩ := X
 obtain ⟨ft0, ft1, ft2, ft3, ft4⟩ := hf
 obtain ⟨u0, ru0, eu0, k0, u1, ru1, eu1, k1, u2, ru2, eu2, k2, u3, ru3, eu3, k3, k4⟩ := h
 generalize ru3 = u4 at *
 obtain rfl := (show u3 = [.int .i64 x3] from k3)
 obtain rfl := (show u4 = [.int .i64 x4] from k4)
 have HG := Lib.hid (show ∀ (W : World) (b : Nat) (t : TypeId), Blk W b t vs.toArray → W.rangeAt b 0 u0 ∧ W.rangeAt b 2 u1 ∧ W.rangeAt b 15 u2 ∧ W.cell? ⟨b, 22, none⟩ = some (.int .i64 x3) ∧ W.cell? ⟨b, 23, none⟩ = some (.int .i64 x4) from fun W b t hB => by
  have q := blk_all hB
  obtain ⟨p0, q⟩ := rsp eu0 (shBtree.R_len k0) q
  obtain ⟨p1, q⟩ := rsp eu1 (shCache.R_len k1) q
  obtain ⟨p2, q⟩ := rsp eu2 (shJournal.R_len k2) q
  obtain ⟨p3, q⟩ := rsp eu3 rfl q
  exact ⟨p0, p1, p2, rng_one p3, rng_one q⟩)
 clear eu0 eu1 eu2 eu3
 have R0 := (((((((Stand.nil w).ad shBtree.R u0 X0 hhi k0 shBtree.R_keep).ad shCache.R u1 X1 hhi k1 shCache.R_keep).ad shJournal.R u2 X2 hhi k2 shJournal.R_keep).box 54 vs.toArray).box 89 zz16).alloc (.cells zz16 89))
 rw [heap_alloc_size1] at R0
 have HR0 := Lib.hid R0
 have HY0 := Lib.hid (show Blk (((w.alloc (.cells vs.toArray 54)).alloc (.cells zz16 89)).alloc (.cells zz16 89)) (w.heap.size + 1 + 1) 89 ([] ++ ((([.int .i64 0, .slice none 0 0] : List Value) ++ (([.int .i64 0, .slice none 0 0, .slice none 0 0, .int .i64 0, .int .i64 0, .int .i64 0, .slice none 0 0, .int .i64 0, .int .i64 0, .int .i64 0, .slice none 0 0, .slice none 0 0, .slice none 0 0] : List Value) ++ (([.int .i64 0, .slice none 0 0, .slice none 0 0, .int .i64 0, .int .i64 0, .int .i64 0, .int .i64 0] : List Value) ++ (([.int .i64 0] : List Value) ++ (([.int .i64 0] : List Value) ++ ([] : List Value)))))))).toArray from by
  have := Blk.new ((w.alloc (.cells vs.toArray 54)).alloc (.cells zz16 89)) 89 zz16
  rw [heap_alloc_size1, heap_alloc_size1] at this
  exact this)
 have HZ0 := slH sizeLBtree k0
 have HZ1 := slH sizeLCache k1
 have HZ2 := slH sizeLJournal k2
 have s0 : (w.heap.size + 1 + 1) + 1 ≤ (((w.alloc (.cells vs.toArray 54)).alloc (.cells zz16 89)).alloc (.cells zz16 89)).heap.size := by simp
 have hp0 : ([] : List Value).length = 0 := rfl
 clear R0 k0 k1 k2
 go_enter Tryz.func24, Tryz.ntmps24
 go_upto_region 2 with fail
 generalize (((w.alloc (.cells vs.toArray 54)).alloc (.cells zz16 89)).alloc (.cells zz16 89)) = W0 at *
 go_wp2_with (first | fail | (refine wlg w.heap.size 0 u0 (HG.out _ _ _ (HR0.out.get 1 rfl)).1 Tryz.underlying40 HZ0.out ?_))
 refine (toBtree_o X0 u0 lo hi _ (HR0.out.get 4 rfl) (HR0.out.le 4 rfl) ft0).mono ?_
 rintro e0 w0 ⟨us0, rfl, ho0, hb0⟩
 have HQ := Lib.hid ((HR0.out.below hb0).add W0.heap.size w0.heap.size (fun W => shBtree.R W W0.heap.size w0.heap.size us0 X0) (fun _ _ hk h => shBtree.R_keep h hk) (Nat.le_refl _) ho0)
 have HV := Lib.hid (HY0.out.below hb0 (by omega))
 have hs0 := hb0.size
 have hlu : us0.length = 2 := shBtree.R_len ho0
 have HTH := Lib.hid (there_mid (n := us0.toArray.size) HV.out hp0 (by rw [List.size_toArray, hlu]; rfl))
 have HSZ := saH sizeIBtree ho0
 have HON := Lib.hid (all_oneCell_toArray (shBtree.R_one ho0))
 clear hb0 ho0 HR0 HY0
 go_upto_region 3 with (first | fail | (refine wpList_store_mid rfl _ _ _ rfl (w.heap.size + 1 + 1) 0 us0.toArray rfl rfl HTH.out HSZ.out HON.out ?_))
 have HR1 := Lib.hid (HQ.out.out (g := (w.heap.size + 1 + 1)) (setCells_out (w.heap.size + 1 + 1) us0 0 w0).1 (by omega) (by simp only [fa1, fa2, and_true]; omega))
 have HY1 := Lib.hid (blk_next (blk_put us0 _ _ _ w0 0 HV.out hp0 (by rw [hlu]; rfl)))
 have hp1 : (([] : List Value) ++ us0).length = 2 := by rw [List.length_append, hp0, hlu]
 clear HTH HSZ HON hlu
 have s1 : (w.heap.size + 1 + 1) + 1 ≤ (w0.setCells (w.heap.size + 1 + 1) 0 us0).heap.size := by rw [(setCells_out _ _ _ _).2]; omega
 have hz1 : w0.heap.size ≤ (w0.setCells (w.heap.size + 1 + 1) 0 us0).heap.size := by rw [(setCells_out _ _ _ _).2]; exact Nat.le_refl _
 clear HQ HV
 generalize w0.setCells (w.heap.size + 1 + 1) 0 us0 = W1 at *
 go_wp2_with (first | fail | (refine wlg w.heap.size 2 u1 (HG.out _ _ _ (HR1.out.get 2 rfl)).2.1 Tryz.underlying50 HZ1.out ?_))
 refine (toCache_o X1 u1 lo hi _ (HR1.out.get 4 rfl) (HR1.out.le 4 rfl) ft1).mono ?_
 rintro e1 w1 ⟨us1, rfl, ho1, hb1⟩
 have HQ := Lib.hid ((HR1.out.below hb1).add W1.heap.size w1.heap.size (fun W => shCache.R W W1.heap.size w1.heap.size us1 X1) (fun _ _ hk h => shCache.R_keep h hk) (Nat.le_refl _) ho1)
 have HV := Lib.hid (HY1.out.below hb1 (by omega))
 have hs1 := hb1.size
 have hlu : us1.length = 13 := shCache.R_len ho1
 have HTH := Lib.hid (there_mid (n := us1.toArray.size) HV.out hp1 (by rw [List.size_toArray, hlu]; rfl))
 have HSZ := saH sizeICache ho1
 have HON := Lib.hid (all_oneCell_toArray (shCache.R_one ho1))
 clear hb1 ho1 HR1 HY1
 go_upto_region 4 with (first | fail | (refine wpList_store_mid rfl _ _ _ rfl (w.heap.size + 1 + 1) 2 us1.toArray rfl rfl HTH.out HSZ.out HON.out ?_))
 have HR2 := Lib.hid (HQ.out.out (g := (w.heap.size + 1 + 1)) (setCells_out (w.heap.size + 1 + 1) us1 2 w1).1 (by omega) (by simp only [fa1, fa2, and_true]; omega))
 have HY2 := Lib.hid (blk_next (blk_put us1 _ _ _ w1 2 HV.out hp1 (by rw [hlu]; rfl)))
 have hp2 : ((([] : List Value) ++ us0) ++ us1).length = 15 := by rw [List.length_append, hp1, hlu]
 clear HTH HSZ HON hlu
 have s2 : (w.heap.size + 1 + 1) + 1 ≤ (w1.setCells (w.heap.size + 1 + 1) 2 us1).heap.size := by rw [(setCells_out _ _ _ _).2]; omega
 have hz2 : w1.heap.size ≤ (w1.setCells (w.heap.size + 1 + 1) 2 us1).heap.size := by rw [(setCells_out _ _ _ _).2]; exact Nat.le_refl _
 clear HQ HV
 generalize w1.setCells (w.heap.size + 1 + 1) 2 us1 = W2 at *
 go_wp2_with (first | fail | (refine wlg w.heap.size 15 u2 (HG.out _ _ _ (HR2.out.get 3 rfl)).2.2.1 Tryz.underlying52 HZ2.out ?_))
 refine (toJournal_o X2 u2 lo hi _ (HR2.out.get 4 rfl) (HR2.out.le 4 rfl) ft2).mono ?_
 rintro e2 w2 ⟨us2, rfl, ho2, hb2⟩
 have HQ := Lib.hid ((HR2.out.below hb2).add W2.heap.size w2.heap.size (fun W => shJournal.R W W2.heap.size w2.heap.size us2 X2) (fun _ _ hk h => shJournal.R_keep h hk) (Nat.le_refl _) ho2)
 have HV := Lib.hid (HY2.out.below hb2 (by omega))
 have hs2 := hb2.size
 have hlu : us2.length = 7 := shJournal.R_len ho2
 have HTH := Lib.hid (there_mid (n := us2.toArray.size) HV.out hp2 (by rw [List.size_toArray, hlu]; rfl))
 have HSZ := saH sizeIJournal ho2
 have HON := Lib.hid (all_oneCell_toArray (shJournal.R_one ho2))
 clear hb2 ho2 HR2 HY2
 go_upto_region 5 with (first | fail | (refine wpList_store_mid rfl _ _ _ rfl (w.heap.size + 1 + 1) 15 us2.toArray rfl rfl HTH.out HSZ.out HON.out ?_))
 have HR3 := Lib.hid (HQ.out.out (g := (w.heap.size + 1 + 1)) (setCells_out (w.heap.size + 1 + 1) us2 15 w2).1 (by omega) (by simp only [fa1, fa2, and_true]; omega))
 have HY3 := Lib.hid (blk_next (blk_put us2 _ _ _ w2 15 HV.out hp2 (by rw [hlu]; rfl)))
 have hp3 : (((([] : List Value) ++ us0) ++ us1) ++ us2).length = 22 := by rw [List.length_append, hp2, hlu]
 clear HTH HSZ HON hlu
 have s3 : (w.heap.size + 1 + 1) + 1 ≤ (w2.setCells (w.heap.size + 1 + 1) 15 us2).heap.size := by rw [(setCells_out _ _ _ _).2]; omega
 have hz3 : w2.heap.size ≤ (w2.setCells (w.heap.size + 1 + 1) 15 us2).heap.size := by rw [(setCells_out _ _ _ _).2]; exact Nat.le_refl _
 clear HQ HV
 generalize w2.setCells (w.heap.size + 1 + 1) 15 us2 = W3 at *
 have fx := (HG.out _ _ _ (HR3.out.get 4 rfl)).2.2.2.1
 have fy := blk_cell HY3.out hp3; have zy := HY3.out.frozen 22
 go_upto_region 6 with fail
 clear fx fy zy
 have HR4 := Lib.hid (HR3.out.set1 (g := (w.heap.size + 1 + 1)) (o := 22) (.int .i64 x3) (by omega) (by simp only [fa1, fa2, and_true]; omega))
 have HY4 := Lib.hid (blk_next (blk_put1 HY3.out hp3 (.int .i64 x3)))
 have s4 : (w.heap.size + 1 + 1) + 1 ≤ (W3.setCell ⟨w.heap.size + 1 + 1, 22, none⟩ (.int .i64 x3)).heap.size := by simp [World.setCell]; omega
 have hz4 : W3.heap.size ≤ (W3.setCell ⟨w.heap.size + 1 + 1, 22, none⟩ (.int .i64 x3)).heap.size := by simp [World.setCell]
 have hp4 : ((((([] : List Value) ++ us0) ++ us1) ++ us2) ++ ([.int .i64 x3] : List Value)).length = 23 := by rw [List.length_append, hp3]; rfl
 generalize W3.setCell ⟨w.heap.size + 1 + 1, 22, none⟩ (.int .i64 x3) = W4 at *
 have fx := (HG.out _ _ _ (HR4.out.get 4 rfl)).2.2.2.2
 have fy := blk_cell HY4.out hp4; have zy := HY4.out.frozen 23
 go_upto_region 7 with fail
 clear fx fy zy
 have HR5 := Lib.hid (HR4.out.set1 (g := (w.heap.size + 1 + 1)) (o := 23) (.int .i64 x4) (by omega) (by simp only [fa1, fa2, and_true]; omega))
 have HY5 := Lib.hid (blk_next (blk_put1 HY4.out hp4 (.int .i64 x4)))
 have s5 : (w.heap.size + 1 + 1) + 1 ≤ (W4.setCell ⟨w.heap.size + 1 + 1, 23, none⟩ (.int .i64 x4)).heap.size := by simp [World.setCell]; omega
 have hz5 : W4.heap.size ≤ (W4.setCell ⟨w.heap.size + 1 + 1, 23, none⟩ (.int .i64 x4)).heap.size := by simp [World.setCell]
 have hp5 : (((((([] : List Value) ++ us0) ++ us1) ++ us2) ++ ([.int .i64 x3] : List Value)) ++ ([.int .i64 x4] : List Value)).length = 24 := by rw [List.length_append, hp4]; rfl
 generalize W4.setCell ⟨w.heap.size + 1 + 1, 23, none⟩ (.int .i64 x4) = W5 at *
 have HRT := Lib.hid (show shBase.R W5 ((w.heap.size + 1 + 1) + 1) W5.heap.size ((us0 ++ (us1 ++ (us2 ++ (([.int .i64 x3] : List Value) ++ ([.int .i64 x4] : List Value)))))) (X0, X1, X2, x3, x4) from ⟨_, _, rfl, (shBtree.R_more (HR5.out.get 2 rfl) (by omega) (by omega)), ⟨_, _, rfl, (shCache.R_more (HR5.out.get 1 rfl) (by omega) (by omega)), ⟨_, _, rfl, (shJournal.R_more (HR5.out.get 0 rfl) (by omega) (by omega)), ⟨_, _, rfl, rfl, rfl⟩⟩⟩⟩)
 have HYF := Lib.hid (show Blk W5 (w.heap.size + 1 + 1) 89 ((us0 ++ (us1 ++ (us2 ++ (([.int .i64 x3] : List Value) ++ ([.int .i64 x4] : List Value)))))).toArray from by have := HY5.out; simpa only [List.append_assoc, List.nil_append, List.append_nil] using this)
 have HLN : ((us0 ++ (us1 ++ (us2 ++ (([.int .i64 x3] : List Value) ++ ([.int .i64 x4] : List Value)))))).length = 24 := by have := hp5; simpa only [List.append_assoc, List.nil_append, List.append_nil] using this
 generalize ((us0 ++ (us1 ++ (us2 ++ (([.int .i64 x3] : List Value) ++ ([.int .i64 x4] : List Value)))))) = VT at *
 have HONE := Lib.hid (shBase.R_one HRT.out)
 have HSZ := Lib.hid (size_arr (P := Tryz.prog) sizeIBase HRT.out)
 have HOL := Lib.hid (show (zz16 : Array Value).size = VT.toArray.size from Eq.trans (b := 24) rfl ((List.size_toArray ..).trans HLN).symm)
 have HRZ := Lib.hid (HR5.out.get 3 rfl)
 have HBE := Lib.hid HR5.out.1
 clear HR5 HY5 hp0 hp1 hp2 hp3 hp4 hp5
 refine wp_region_list ?_
 refine wpList_loadAll rfl 89 (.tmp 3) rfl (w.heap.size + 1 + 1) rfl HYF.out Tryz.underlying89 rfl HSZ.out ?_
 simp only [Go.Act.put, za, zb, zc]
 refine wpList_storeAll rfl 89 (.tmp 2) _ rfl (w.heap.size + 1) VT.toArray rfl rfl HRZ.out HSZ.out HOL.out HONE.out ?_
 intro wF hbF hoF hzF
 have HBF := Lib.hid hbF
 have HRF := Lib.hid (shBase.R_keep HRT.out (fun b q1 q2 => hoF.block b (by omega) (by simp; omega)))
 have HBB := Lib.hid (HBE.out.trans (hoF.below1 (by omega) (by omega)))
 clear hbF hoF HRT HYF HONE HRZ HBE HOL
 go_wp2_with fail
 refine bodyPost_ret (results_cell_row (P := Tryz.prog) rfl _ _ (w.heap.size + 1) 89 VT.toArray (0, 0) _ rfl HBF.out Tryz.underlying89 rfl HSZ.out) rfl ⟨VT, rfl, ?_, HBB.out⟩
 exact shBase.R_more HRF.out (by omega) (by omega)
end Go.Proofs.YtgnmollbnopigaaGreat
