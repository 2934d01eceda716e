/- FnExactSameSite returns true: the walk of the law (printed by wip/gen_lawo.py). -/
import Derived.Test.YtgnmollbnopigaaGreatJoinSSAi
import Derived.Test.YtgnmollbnopigaaGreatJoinSSBu
import Derived.Test.YtgnmollbnopigaaGreatJoinSSBy
import Derived.Test.YtgnmollbnopigaaGreatJoinSSAx
import Derived.Test.YtgnmollbnopigaaGreatJoinSSBz
import Derived.Test.YtgnmollbnopigaaGreatJoinSSBf
namespace Go.Proofs.YtgnmollbnopigaaGreat
open Go.RowKit
set_option maxHeartbeats 16000000 in
set_option maxRecDepth 100000 in
theorem law_SameSite (X0 : TySite) (X1 : TySite) (vs0 : List Value) (vs1 : List Value) (w : World) (hx0 : shSite.R w 0 w.heap.size vs0 X0) (hr0 : shSite.fit 9223372036854775807 X0) (hx1 : shSite.R w 0 w.heap.size vs1 X1) (hr1 : shSite.fit 9223372036854775807 X1) :
  Calls Tryz.prog 3 #[.agg vs0.toArray, .agg vs1.toArray] w fun e w' => e = .returned (.bool true) ∧ Below w.heap.size w w' := by
 have hsp := fun (hf0 : shSite.fit 4294967296 X0) (hf1 : shSite.fit 4294967296 X1) vs0 lo0 hi0 vs1 lo1 hi1 (W : World) h0 hh0 h1 hh1 => sSameSite_o X0 X1 vs0 vs1 lo0 hi0 lo1 hi1 W h0 h1 hh0 hh1 hf0 hf1
 have him := fun (hf0 : shSite.fit 4294967296 X0) (hf1 : shSite.fit 4294967296 X1) vs0 lo0 hi0 vs1 lo1 hi1 (W : World) h0 hh0 h1 hh1 => iSameSite_o X0 X1 vs0 vs1 lo0 hi0 lo1 hi1 W h0 h1 hh0 hh1 hf0 hf1
 generalize sameB X0 X1 = z0 at hsp him
 have HSP := Lib.hid hsp; have HIM := Lib.hid him; clear hsp him
 have HX0 := Lib.hid hx0; have HQ0 := Lib.hid hr0; have HS_p0 := Lib.hid (size_of sizeLSite hx0); clear hx0 hr0
 have HX1 := Lib.hid hx1; have HQ1 := Lib.hid hr1; have HS_p1 := Lib.hid (size_of sizeLSite hx1); clear hx1 hr1
 have R0 := (((((Stand.nil w).add 0 w.heap.size _ (loc_sh shSite 0 w.heap.size vs0 X0) (Nat.le_refl _) HX0.out).add 0 w.heap.size _ (loc_sh shSite 0 w.heap.size vs1 X1) (Nat.le_refl _) HX1.out).box 56 vs0.toArray).box 56 vs1.toArray)
 rw [heap_alloc_size1] at R0
 have HR0 := Lib.hid R0; clear R0
 go_enter Tryz.func3, Tryz.ntmps3
 go_upto_region 1 with fail
 generalize ((w.alloc (.cells vs0.toArray 56)).alloc (.cells vs1.toArray 56)) = u0 at *
 have su : w.heap.size ≤ u0.heap.size := HR0.out.1.size
 have sp0 := (HR0.out.le 1 rfl)
 have sp1 := (HR0.out.le 0 rfl)
 go_wp2_with (first | fail | (refine wpList_loadAll rfl 56 (.tmp 2) rfl (w.heap.size) rfl (HR0.out.get 1 rfl) Tryz.underlying56 rfl HS_p0.out ?_; simp only [Go.Act.put, za, zb, zc]) | (refine wpList_loadAll rfl 56 (.tmp 3) rfl (w.heap.size + 1) rfl (HR0.out.get 0 rfl) Tryz.underlying56 rfl HS_p1.out ?_; simp only [Go.Act.put, za, zb, zc]))
 refine (szSite_o X0 vs0 0 w.heap.size _ _ (HR0.out.get 3 rfl) (HR0.out.le 3 rfl) HQ0.out (by omega) (by omega)).mono ?_
 rintro e1 w1 ⟨m1, rfl, hm1, hb1⟩
 have R1 := HR0.out.below hb1; have q1 := hb1.size
 have HR1 := Lib.hid R1; clear R1 HR0 hb1
 rcases hm1 with rfl | ⟨hm0_1, hm1_1⟩
 ·go_wp2_with fail
  go_ret
  exact ⟨rfl, HR1.out.1⟩
 have nm1 : decide (m1 < 0) = false := decide_eq_false (by omega)
 have hc100 : shSite.cost X0 ≤ 1048576 := by omega
 have HF0 := Lib.hid (shSite.fit_of hc100); have HL0 := Lib.hid (shSite.fit_of (m := 4294967296) (by omega : shSite.cost X0 ≤ 4294967296))
 go_wp2_with (first | fail | (refine wpList_loadAll rfl 56 (.tmp 2) rfl (w.heap.size) rfl (HR1.out.get 1 rfl) Tryz.underlying56 rfl HS_p0.out ?_; simp only [Go.Act.put, za, zb, zc]) | (refine wpList_loadAll rfl 56 (.tmp 3) rfl (w.heap.size + 1) rfl (HR1.out.get 0 rfl) Tryz.underlying56 rfl HS_p1.out ?_; simp only [Go.Act.put, za, zb, zc]))
 refine (szSite_o X1 vs1 0 w.heap.size _ _ (HR1.out.get 2 rfl) (HR1.out.le 2 rfl) HQ1.out (by omega) (by omega)).mono ?_
 rintro e2 w2 ⟨m2, rfl, hm2, hb2⟩
 have R2 := HR1.out.below hb2; have q2 := hb2.size
 have HR2 := Lib.hid R2; clear R2 HR1 hb2
 rcases hm2 with rfl | ⟨hm0_2, hm1_2⟩
 ·go_wp2_with fail
  go_ret
  exact ⟨rfl, HR2.out.1⟩
 have nm2 : decide (m2 < 0) = false := decide_eq_false (by omega)
 have hc101 : shSite.cost X1 ≤ 1048576 := by omega
 have HF1 := Lib.hid (shSite.fit_of hc101); have HL1 := Lib.hid (shSite.fit_of (m := 4294967296) (by omega : shSite.cost X1 ≤ 4294967296))
 clear hc100 hc101 hm1_1 hm1_2
 have nz0 : (z0 != z0) = false := by simp
 go_upto_region 8 with (first | fail | (refine wpList_loadAll rfl 56 (.tmp 2) rfl (w.heap.size) rfl (HR2.out.get 1 rfl) Tryz.underlying56 rfl HS_p0.out ?_; simp only [Go.Act.put, za, zb, zc]) | (refine wpList_loadAll rfl 56 (.tmp 3) rfl (w.heap.size + 1) rfl (HR2.out.get 0 rfl) Tryz.underlying56 rfl HS_p1.out ?_; simp only [Go.Act.put, za, zb, zc]))
 refine AnyT.region (fun _ => false) (fun W => Blk W (w.heap.size) 56 vs0.toArray ∧ Blk W (w.heap.size + 1) 56 vs1.toArray) (by kernel_rfl) ⟨(HR2.out.get 1 rfl).drewN 1, (HR2.out.get 0 rfl).drewN 1⟩ (fun hHeld => ?_)
 have R3 := HR2.out.drew; have q3 : w2.heap.size ≤ w2.drew.heap.size := Nat.le_refl _
 have HR3 := Lib.hid R3; clear R3 HR2
 generalize w2.drew = w103 at *
 refine AnyT.tx 0 20 (.agg vs0.toArray) (fun W hW => exec_loadAll 56 (.tmp 2) rfl (w.heap.size) rfl hW.1 Tryz.underlying56 rfl HS_p0.out) ?_
 simp only [Go.Act.put, za, zb, zc]
 refine AnyT.tx 2 22 (.agg vs1.toArray) (fun W hW => exec_loadAll 56 (.tmp 3) rfl (w.heap.size + 1) rfl hW.2 Tryz.underlying56 rfl HS_p1.out) ?_
 simp only [Go.Act.put, za, zb, zc]
 ((refine AnyT.one (i := 1) (by kernel_rfl) rfl (fun K hK => ?_)))
 go_simp
 refine (toSite_o X0 vs0 0 w.heap.size _ (HR3.out.get 3 rfl) (HR3.out.le 3 rfl) HF0.out).mono ?_
 rintro e4 w4 ⟨us4, rfl, hx4, hb4⟩
 have R4 := (HR3.out.below hb4).add _ _ _ (loc_sh shSite _ _ us4 X0) (Nat.le_refl _) hx4; have q4 := hb4.size
 have HS_t0 := Lib.hid (size_of sizeISite hx4); have HO_t0 := Lib.hid (shSite.R_one hx4)
 have HR4 := Lib.hid R4; clear R4 HR3 hx4 hb4
 go_simp
 refine hK.out _ _ ⟨(HR4.out.get 2 rfl), (HR4.out.get 1 rfl)⟩ (fun hHeld => ?_)
 clear hK K
 (try simp only [Go.Act.put, za, zb, zc])
 ((refine AnyT.one (i := 3) (by kernel_rfl) rfl (fun K hK => ?_)))
 go_simp
 refine (toSite_o X1 vs1 0 w.heap.size _ (HR4.out.get 3 rfl) (HR4.out.le 3 rfl) HF1.out).mono ?_
 rintro e5 w5 ⟨us5, rfl, hx5, hb5⟩
 have R5 := (HR4.out.below hb5).add _ _ _ (loc_sh shSite _ _ us5 X1) (Nat.le_refl _) hx5; have q5 := hb5.size
 have HS_t1 := Lib.hid (size_of sizeISite hx5); have HO_t1 := Lib.hid (shSite.R_one hx5)
 have HR5 := Lib.hid R5; clear R5 HR4 hx5 hb5
 go_simp
 refine hK.out _ _ ⟨(HR5.out.get 3 rfl), (HR5.out.get 2 rfl)⟩ (fun hHeld => ?_)
 clear hK K
 (try simp only [Go.Act.put, za, zb, zc])
 ((refine AnyT.one (i := 4) (by kernel_rfl) rfl (fun K hK => ?_)))
 go_simp
 refine (HSP.out HL0.out HL1.out _ _ _ _ _ _ _ (HR5.out.get 1 rfl) (HR5.out.le 1 rfl) (HR5.out.get 0 rfl) (HR5.out.le 0 rfl)).mono ?_
 rintro e6 w6 ⟨rfl, hb6⟩
 have q6 := hb6.size
 have R6 := HR5.out.below hb6
 have HR6 := Lib.hid R6; clear R6 HR5 hb6 
 go_simp
 refine hK.out _ _ ⟨(HR6.out.get 3 rfl), (HR6.out.get 2 rfl)⟩ (fun hHeld => ?_)
 clear hK K
 (try simp only [Go.Act.put, za, zb, zc])
 (refine AnyT.ta 5 6 ?_; simp only [Act.put, za, zb, zc])
 refine AnyT.done (by kernel_rfl) ?_ _
 clear hHeld
 go_upto_region 9 with (first | fail | (refine wpList_loadAll rfl 56 (.tmp 2) rfl (w.heap.size) rfl (HR6.out.get 3 rfl) Tryz.underlying56 rfl HS_p0.out ?_; simp only [Go.Act.put, za, zb, zc]) | (refine wpList_loadAll rfl 56 (.tmp 3) rfl (w.heap.size + 1) rfl (HR6.out.get 2 rfl) Tryz.underlying56 rfl HS_p1.out ?_; simp only [Go.Act.put, za, zb, zc]))
 go_wp2_with (first | fail | (refine wpList_loadAll rfl 56 (.tmp 2) rfl (w.heap.size) rfl (HR6.out.get 3 rfl) Tryz.underlying56 rfl HS_p0.out ?_; simp only [Go.Act.put, za, zb, zc]) | (refine wpList_loadAll rfl 56 (.tmp 3) rfl (w.heap.size + 1) rfl (HR6.out.get 2 rfl) Tryz.underlying56 rfl HS_p1.out ?_; simp only [Go.Act.put, za, zb, zc]))
 refine (toSite_o X0 vs0 0 w.heap.size _ (HR6.out.get 5 rfl) (HR6.out.le 5 rfl) HF0.out).mono ?_
 rintro e7 w7 ⟨us7, rfl, hx7, hb7⟩
 have R7 := (HR6.out.below hb7).add _ _ _ (loc_sh shSite _ _ us7 X0) (Nat.le_refl _) hx7; have q7 := hb7.size
 have HS_x0 := Lib.hid (size_of sizeISite hx7); have HO_x0 := Lib.hid (shSite.R_one hx7)
 have HR7 := Lib.hid R7; clear R7 HR6 hx7 hb7
 have HZ8 := Lib.hid (Blk.new w7 91 zz17)
 have HZS8 : Hid ((zz17 : Array Value).size = us7.toArray.size) := Lib.hid (Option.some.inj ((show (Tryz.prog.info? 91).map (·.size) = some _ from by kernel_rfl).symm.trans HS_x0.out))
 go_upto_region 10 with (first | fail | (refine wpList_loadAll rfl 56 (.tmp 2) rfl (w.heap.size) rfl (HR7.out.get 4 rfl) Tryz.underlying56 rfl HS_p0.out ?_; simp only [Go.Act.put, za, zb, zc]) | (refine wpList_loadAll rfl 56 (.tmp 3) rfl (w.heap.size + 1) rfl (HR7.out.get 3 rfl) Tryz.underlying56 rfl HS_p1.out ?_; simp only [Go.Act.put, za, zb, zc]) | (refine wpList_storeAll rfl 91 (.tmp 7) (.tmp 26) rfl w7.heap.size us7.toArray rfl rfl HZ8.out HS_x0.out HZS8.out (fun u hu => HO_x0.out u (by simpa using hu)) ?_; intro w8 hk8 ho8 hz8))
 (try simp only [Go.Act.put])
 have q8 : w7.heap.size + 1 ≤ w8.heap.size ∧ w8.heap.size ≤ w7.heap.size + 1 := by rw [hz8]; simp
 have R8 := HR7.out.store hk8 ho8
 have HR8 := Lib.hid R8; clear R8 HR7 HZ8 HZS8 hk8 ho8 hz8
 go_wp2_with (first | fail | (refine wpList_loadAll rfl 56 (.tmp 2) rfl (w.heap.size) rfl (HR8.out.get 5 rfl) Tryz.underlying56 rfl HS_p0.out ?_; simp only [Go.Act.put, za, zb, zc]) | (refine wpList_loadAll rfl 56 (.tmp 3) rfl (w.heap.size + 1) rfl (HR8.out.get 4 rfl) Tryz.underlying56 rfl HS_p1.out ?_; simp only [Go.Act.put, za, zb, zc]) | (refine wpList_loadAll rfl 91 (.tmp 7) rfl (w7.heap.size) rfl (HR8.out.get 0 rfl) Tryz.underlying91 rfl HS_x0.out ?_; simp only [Go.Act.put, za, zb, zc]))
 refine (toSite_o X1 vs1 0 w.heap.size _ (HR8.out.get 6 rfl) (HR8.out.le 6 rfl) HF1.out).mono ?_
 rintro e9 w9 ⟨us9, rfl, hx9, hb9⟩
 have R9 := (HR8.out.below hb9).add _ _ _ (loc_sh shSite _ _ us9 X1) (Nat.le_refl _) hx9; have q9 := hb9.size
 have HS_x1 := Lib.hid (size_of sizeISite hx9); have HO_x1 := Lib.hid (shSite.R_one hx9)
 have HR9 := Lib.hid R9; clear R9 HR8 hx9 hb9
 have HZ10 := Lib.hid (Blk.new w9 91 zz17)
 have HZS10 : Hid ((zz17 : Array Value).size = us9.toArray.size) := Lib.hid (Option.some.inj ((show (Tryz.prog.info? 91).map (·.size) = some _ from by kernel_rfl).symm.trans HS_x1.out))
 go_upto_region 11 with (first | fail | (refine wpList_loadAll rfl 56 (.tmp 2) rfl (w.heap.size) rfl (HR9.out.get 6 rfl) Tryz.underlying56 rfl HS_p0.out ?_; simp only [Go.Act.put, za, zb, zc]) | (refine wpList_loadAll rfl 56 (.tmp 3) rfl (w.heap.size + 1) rfl (HR9.out.get 5 rfl) Tryz.underlying56 rfl HS_p1.out ?_; simp only [Go.Act.put, za, zb, zc]) | (refine wpList_loadAll rfl 91 (.tmp 7) rfl (w7.heap.size) rfl (HR9.out.get 1 rfl) Tryz.underlying91 rfl HS_x0.out ?_; simp only [Go.Act.put, za, zb, zc]) | (refine wpList_storeAll rfl 91 (.tmp 8) (.tmp 28) rfl w9.heap.size us9.toArray rfl rfl HZ10.out HS_x1.out HZS10.out (fun u hu => HO_x1.out u (by simpa using hu)) ?_; intro w10 hk10 ho10 hz10))
 (try simp only [Go.Act.put])
 have q10 : w9.heap.size + 1 ≤ w10.heap.size ∧ w10.heap.size ≤ w9.heap.size + 1 := by rw [hz10]; simp
 have R10 := HR9.out.store hk10 ho10
 have HR10 := Lib.hid R10; clear R10 HR9 HZ10 HZS10 hk10 ho10 hz10
 go_wp2_with (first | fail | (refine wpList_loadAll rfl 56 (.tmp 2) rfl (w.heap.size) rfl (HR10.out.get 7 rfl) Tryz.underlying56 rfl HS_p0.out ?_; simp only [Go.Act.put, za, zb, zc]) | (refine wpList_loadAll rfl 56 (.tmp 3) rfl (w.heap.size + 1) rfl (HR10.out.get 6 rfl) Tryz.underlying56 rfl HS_p1.out ?_; simp only [Go.Act.put, za, zb, zc]) | (refine wpList_loadAll rfl 91 (.tmp 7) rfl (w7.heap.size) rfl (HR10.out.get 2 rfl) Tryz.underlying91 rfl HS_x0.out ?_; simp only [Go.Act.put, za, zb, zc]) | (refine wpList_loadAll rfl 91 (.tmp 8) rfl (w9.heap.size) rfl (HR10.out.get 0 rfl) Tryz.underlying91 rfl HS_x1.out ?_; simp only [Go.Act.put, za, zb, zc]))
 refine (HIM.out HL0.out HL1.out _ _ _ _ _ _ _ (HR10.out.get 3 rfl) (HR10.out.le 3 rfl) (HR10.out.get 1 rfl) (HR10.out.le 1 rfl)).mono ?_
 rintro e11 w11 ⟨rfl, hb11⟩
 have q11 := hb11.size
 have R11 := HR10.out.below hb11
 have HR11 := Lib.hid R11; clear R11 HR10 hb11 
 go_upto_region 12 with (first | fail | (refine wpList_loadAll rfl 56 (.tmp 2) rfl (w.heap.size) rfl (HR11.out.get 7 rfl) Tryz.underlying56 rfl HS_p0.out ?_; simp only [Go.Act.put, za, zb, zc]) | (refine wpList_loadAll rfl 56 (.tmp 3) rfl (w.heap.size + 1) rfl (HR11.out.get 6 rfl) Tryz.underlying56 rfl HS_p1.out ?_; simp only [Go.Act.put, za, zb, zc]) | (refine wpList_loadAll rfl 91 (.tmp 7) rfl (w7.heap.size) rfl (HR11.out.get 2 rfl) Tryz.underlying91 rfl HS_x0.out ?_; simp only [Go.Act.put, za, zb, zc]) | (refine wpList_loadAll rfl 91 (.tmp 8) rfl (w9.heap.size) rfl (HR11.out.get 0 rfl) Tryz.underlying91 rfl HS_x1.out ?_; simp only [Go.Act.put, za, zb, zc]))
 go_upto_region 14 with (first | fail | (refine wpList_loadAll rfl 56 (.tmp 2) rfl (w.heap.size) rfl (HR11.out.get 7 rfl) Tryz.underlying56 rfl HS_p0.out ?_; simp only [Go.Act.put, za, zb, zc]) | (refine wpList_loadAll rfl 56 (.tmp 3) rfl (w.heap.size + 1) rfl (HR11.out.get 6 rfl) Tryz.underlying56 rfl HS_p1.out ?_; simp only [Go.Act.put, za, zb, zc]) | (refine wpList_loadAll rfl 91 (.tmp 7) rfl (w7.heap.size) rfl (HR11.out.get 2 rfl) Tryz.underlying91 rfl HS_x0.out ?_; simp only [Go.Act.put, za, zb, zc]) | (refine wpList_loadAll rfl 91 (.tmp 8) rfl (w9.heap.size) rfl (HR11.out.get 0 rfl) Tryz.underlying91 rfl HS_x1.out ?_; simp only [Go.Act.put, za, zb, zc]))
 refine AnyT.region (fun _ => false) (fun W => Blk W (w7.heap.size) 91 us7.toArray ∧ Blk W (w.heap.size) 56 vs0.toArray) (by kernel_rfl) ⟨(HR11.out.get 2 rfl).drewN 1, (HR11.out.get 7 rfl).drewN 1⟩ (fun hHeld => ?_)
 have R12 := HR11.out.drew; have q12 : w11.heap.size ≤ w11.drew.heap.size := Nat.le_refl _
 have HR12 := Lib.hid R12; clear R12 HR11
 generalize w11.drew = w112 at *
 refine AnyT.tx 0 35 (.agg us7.toArray) (fun W hW => exec_loadAll 91 (.tmp 7) rfl (w7.heap.size) rfl hW.1 Tryz.underlying91 rfl HS_x0.out) ?_
 simp only [Go.Act.put, za, zb, zc]
 refine AnyT.tx 1 36 (.agg vs0.toArray) (fun W hW => exec_loadAll 56 (.tmp 2) rfl (w.heap.size) rfl hW.2 Tryz.underlying56 rfl HS_p0.out) ?_
 simp only [Go.Act.put, za, zb, zc]
 ((refine AnyT.one (i := 2) (by kernel_rfl) rfl (fun K hK => ?_)))
 go_simp
 refine (toSite_o X0 vs0 0 w.heap.size _ (HR12.out.get 9 rfl) (HR12.out.le 9 rfl) HF0.out).mono ?_
 rintro e13 w13 ⟨us13, rfl, hx13, hb13⟩
 have R13 := (HR12.out.below hb13).add _ _ _ (loc_sh shSite _ _ us13 X0) (Nat.le_refl _) hx13; have q13 := hb13.size
 have HS_y0 := Lib.hid (size_of sizeISite hx13); have HO_y0 := Lib.hid (shSite.R_one hx13)
 have HR13 := Lib.hid R13; clear R13 HR12 hx13 hb13
 go_simp
 refine hK.out _ _ ⟨(HR13.out.get 3 rfl), (HR13.out.get 8 rfl)⟩ (fun hHeld => ?_)
 clear hK K
 (try simp only [Go.Act.put, za, zb, zc])
 ((refine AnyT.one (i := 3) (by kernel_rfl) rfl (fun K hK => ?_)))
 go_simp
 refine (eqSite_o X0 us7 us13 _ _ _ _ _ (HR13.out.get 4 rfl) (HR13.out.get 0 rfl) (HR13.out.le 4 rfl) (HR13.out.le 0 rfl) HL0.out).mono ?_
 rintro e114 w114 ⟨rfl, hb14⟩; have q14 := hb14.size
 go_simp
 have R14 := HR13.out.below hb14
 have HR14 := Lib.hid R14; clear R14 HR13 hb14
 refine hK.out _ _ ⟨(HR14.out.get 3 rfl), (HR14.out.get 8 rfl)⟩ (fun hHeld => ?_)
 clear hK K
 (try simp only [Go.Act.put, za, zb, zc])
 (refine AnyT.ta 4 39 ?_; simp only [Act.put, za, zb, zc])
 refine AnyT.done (by kernel_rfl) ?_ _
 clear hHeld
 go_upto_region 16 with (first | fail | (refine wpList_loadAll rfl 56 (.tmp 2) rfl (w.heap.size) rfl (HR14.out.get 8 rfl) Tryz.underlying56 rfl HS_p0.out ?_; simp only [Go.Act.put, za, zb, zc]) | (refine wpList_loadAll rfl 56 (.tmp 3) rfl (w.heap.size + 1) rfl (HR14.out.get 7 rfl) Tryz.underlying56 rfl HS_p1.out ?_; simp only [Go.Act.put, za, zb, zc]) | (refine wpList_loadAll rfl 91 (.tmp 7) rfl (w7.heap.size) rfl (HR14.out.get 3 rfl) Tryz.underlying91 rfl HS_x0.out ?_; simp only [Go.Act.put, za, zb, zc]) | (refine wpList_loadAll rfl 91 (.tmp 8) rfl (w9.heap.size) rfl (HR14.out.get 1 rfl) Tryz.underlying91 rfl HS_x1.out ?_; simp only [Go.Act.put, za, zb, zc]))
 refine AnyT.region (fun _ => false) (fun W => Blk W (w9.heap.size) 91 us9.toArray ∧ Blk W (w.heap.size + 1) 56 vs1.toArray) (by kernel_rfl) ⟨(HR14.out.get 1 rfl).drewN 1, (HR14.out.get 7 rfl).drewN 1⟩ (fun hHeld => ?_)
 have R15 := HR14.out.drew; have q15 : w114.heap.size ≤ w114.drew.heap.size := Nat.le_refl _
 have HR15 := Lib.hid R15; clear R15 HR14
 generalize w114.drew = w115 at *
 refine AnyT.tx 0 40 (.agg us9.toArray) (fun W hW => exec_loadAll 91 (.tmp 8) rfl (w9.heap.size) rfl hW.1 Tryz.underlying91 rfl HS_x1.out) ?_
 simp only [Go.Act.put, za, zb, zc]
 refine AnyT.tx 1 41 (.agg vs1.toArray) (fun W hW => exec_loadAll 56 (.tmp 3) rfl (w.heap.size + 1) rfl hW.2 Tryz.underlying56 rfl HS_p1.out) ?_
 simp only [Go.Act.put, za, zb, zc]
 ((refine AnyT.one (i := 2) (by kernel_rfl) rfl (fun K hK => ?_)))
 go_simp
 refine (toSite_o X1 vs1 0 w.heap.size _ (HR15.out.get 9 rfl) (HR15.out.le 9 rfl) HF1.out).mono ?_
 rintro e16 w16 ⟨us16, rfl, hx16, hb16⟩
 have R16 := (HR15.out.below hb16).add _ _ _ (loc_sh shSite _ _ us16 X1) (Nat.le_refl _) hx16; have q16 := hb16.size
 have HS_y1 := Lib.hid (size_of sizeISite hx16); have HO_y1 := Lib.hid (shSite.R_one hx16)
 have HR16 := Lib.hid R16; clear R16 HR15 hx16 hb16
 go_simp
 refine hK.out _ _ ⟨(HR16.out.get 2 rfl), (HR16.out.get 8 rfl)⟩ (fun hHeld => ?_)
 clear hK K
 (try simp only [Go.Act.put, za, zb, zc])
 ((refine AnyT.one (i := 3) (by kernel_rfl) rfl (fun K hK => ?_)))
 go_simp
 refine (eqSite_o X1 us9 us16 _ _ _ _ _ (HR16.out.get 3 rfl) (HR16.out.get 0 rfl) (HR16.out.le 3 rfl) (HR16.out.le 0 rfl) HL1.out).mono ?_
 rintro e117 w117 ⟨rfl, hb17⟩; have q17 := hb17.size
 go_simp
 have R17 := HR16.out.below hb17
 have HR17 := Lib.hid R17; clear R17 HR16 hb17
 refine hK.out _ _ ⟨(HR17.out.get 2 rfl), (HR17.out.get 8 rfl)⟩ (fun hHeld => ?_)
 clear hK K
 (try simp only [Go.Act.put, za, zb, zc])
 (refine AnyT.ta 4 44 ?_; simp only [Act.put, za, zb, zc])
 refine AnyT.done (by kernel_rfl) ?_ _
 clear hHeld
 go_wp2_with (first | fail | (refine wpList_loadAll rfl 56 (.tmp 2) rfl (w.heap.size) rfl (HR17.out.get 9 rfl) Tryz.underlying56 rfl HS_p0.out ?_; simp only [Go.Act.put, za, zb, zc]) | (refine wpList_loadAll rfl 56 (.tmp 3) rfl (w.heap.size + 1) rfl (HR17.out.get 8 rfl) Tryz.underlying56 rfl HS_p1.out ?_; simp only [Go.Act.put, za, zb, zc]) | (refine wpList_loadAll rfl 91 (.tmp 7) rfl (w7.heap.size) rfl (HR17.out.get 4 rfl) Tryz.underlying91 rfl HS_x0.out ?_; simp only [Go.Act.put, za, zb, zc]) | (refine wpList_loadAll rfl 91 (.tmp 8) rfl (w9.heap.size) rfl (HR17.out.get 2 rfl) Tryz.underlying91 rfl HS_x1.out ?_; simp only [Go.Act.put, za, zb, zc]))
 go_ret
 exact ⟨rfl, HR17.out.1⟩
end Go.Proofs.YtgnmollbnopigaaGreat
