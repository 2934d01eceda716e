/- FnExactBeginTop returns true: the walk of the law (printed by wip/gen_lawo.py). -/
import Derived.Test.YtnnabkldceklmaaGreatDoorJoinBTBq
import Derived.Test.YtnnabkldceklmaaGreatDoorJoinBTBs
namespace Go.Proofs.YtnnabkldceklmaaGreatDoor
open Go.RowKit
set_option maxHeartbeats 16000000 in
set_option maxRecDepth 100000 in
theorem law_BeginTop (X0 : TyCache) (X1 : TyBtree) (s2 : Int) (vs0 : List Value) (vs1 : List Value) (w : World) (hx0 : shCache.R w 0 w.heap.size vs0 X0) (hr0 : shCache.fit 9223372036854775807 X0) (hx1 : shBtree.R w 0 w.heap.size vs1 X1) (hr1 : shBtree.fit 9223372036854775807 X1) (hE : EnvIn w) :
  Calls Tryz.prog 3 #[.agg vs0.toArray, .agg vs1.toArray, .int .i64 s2] w fun e w' => e = .returned (.bool true) ∧ Below w.heap.size w w' := by
 have hsp := fun (hf0 : shCache.fit 1048576 X0) (hf1 : shBtree.fit 1048576 X1) vs0 lo0 hi0 vs1 lo1 hi1 (W : World) h0 hh0 h1 hh1 => specBeginTop_f X0 X1 s2 vs0 vs1 lo0 hi0 lo1 hi1 W h0 h1 hh0 hh1 hf0 hf1
 have him := fun (hf0 : shCache.fit 1048576 X0) (hf1 : shBtree.fit 1048576 X1) vs0 lo0 hi0 vs1 lo1 hi1 (W : World) h0 hh0 h1 hh1 (hB : Below w.heap.size w W) => implBeginTop_f X0 X1 s2 vs0 vs1 lo0 hi0 lo1 hi1 W h0 h1 hh0 hh1 hf0 hf1 (hE.below hB)
 have hcost := fun (hc0 : shCache.cost X0 ≤ 1048576) (hc1 : shBtree.cost X1 ≤ 1048576) => beginR_cost X0 X1 s2 hc0 hc1
 generalize beginR X0 X1 s2 = T at hsp him hcost
 obtain ⟨r0, z1⟩ := T
 dsimp only at hsp him hcost
 have HSP := hd_ hsp; have HIM := hd_ him; have HCOST := hd_ hcost; clear hsp him hcost hE
 have HX0 := hd_ hx0; have HQ0 := hd_ hr0; have HS_p0 := hd_ (size_of sizeLCache hx0); clear hx0 hr0
 have HX1 := hd_ hx1; have HQ1 := hd_ hr1; have HS_p1 := hd_ (size_of sizeLBtree hx1); clear hx1 hr1
 have R0 := (((((Stand.nil w).add 0 w.heap.size _ (loc_sh shCache 0 w.heap.size vs0 X0) (Nat.le_refl _) HX0.out).add 0 w.heap.size _ (loc_sh shBtree 0 w.heap.size vs1 X1) (Nat.le_refl _) HX1.out).box 31 vs0.toArray).box 34 vs1.toArray)
 rw [heap_alloc_size1] at R0
 have HR0 := hd_ R0; clear R0
 go_enter Tryz.func3, Tryz.ntmps3
 go_upto_region 1 with fail
 generalize ((w.alloc (.cells vs0.toArray 31)).alloc (.cells vs1.toArray 34)) = u0 at *
 have su : w.heap.size ≤ u0.heap.size := HR0.out.1.size
 have sp0 := (HR0.out.le 1 rfl)
 have sp1 := (HR0.out.le 0 rfl)
 go_wp2_with (first | fail | (refine wpList_loadAll rfl 31 (.tmp 3) rfl (w.heap.size) rfl (HR0.out.get 1 rfl) Tryz.underlying31 rfl HS_p0.out ?_; simp only [pz]) | (refine wpList_loadAll rfl 34 (.tmp 4) rfl (w.heap.size + 1) rfl (HR0.out.get 0 rfl) Tryz.underlying34 rfl HS_p1.out ?_; simp only [pz]))
 refine (szCache_o X0 vs0 0 w.heap.size _ _ (HR0.out.get 3 rfl) (HR0.out.le 3 rfl) HQ0.out (by omega) (by omega)).mono ?_
 rintro e1 w1 ⟨m1, rfl, hm1, hb1⟩
 have R1 := HR0.out.below hb1; have q1 := hb1.size
 have HR1 := hd_ R1; clear R1 HR0 hb1
 rcases hm1 with rfl | ⟨hm0_1, hm1_1⟩
 ·go_wp2_with fail
  go_ret
  exact ⟨rfl, HR1.out.1⟩
 have nm1 : decide (m1 < 0) = false := decide_eq_false (by omega)
 have hc100 : shCache.cost X0 ≤ 1048576 := by omega
 have HF0 := hd_ (shCache.fit_of hc100); have HL0 := hd_ (shCache.fit_of (m := 4294967296) (by omega : shCache.cost X0 ≤ 4294967296)); have HK0 := hd_ (fewerCache _ (by omega : shCache.cost X0 ≤ 1048576))
 go_wp2_with (first | fail | (refine wpList_loadAll rfl 31 (.tmp 3) rfl (w.heap.size) rfl (HR1.out.get 1 rfl) Tryz.underlying31 rfl HS_p0.out ?_; simp only [pz]) | (refine wpList_loadAll rfl 34 (.tmp 4) rfl (w.heap.size + 1) rfl (HR1.out.get 0 rfl) Tryz.underlying34 rfl HS_p1.out ?_; simp only [pz]))
 refine (szBtree_o X1 vs1 0 w.heap.size _ _ (HR1.out.get 2 rfl) (HR1.out.le 2 rfl) HQ1.out (by omega) (by omega)).mono ?_
 rintro e2 w2 ⟨m2, rfl, hm2, hb2⟩
 have R2 := HR1.out.below hb2; have q2 := hb2.size
 have HR2 := hd_ R2; clear R2 HR1 hb2
 rcases hm2 with rfl | ⟨hm0_2, hm1_2⟩
 ·go_wp2_with fail
  go_ret
  exact ⟨rfl, HR2.out.1⟩
 have nm2 : decide (m2 < 0) = false := decide_eq_false (by omega)
 have hc101 : shBtree.cost X1 ≤ 1048576 := by omega
 have HF1 := hd_ (shBtree.fit_of hc101); have HL1 := hd_ (shBtree.fit_of (m := 4294967296) (by omega : shBtree.cost X1 ≤ 4294967296)); have HK1 := hd_ (fewerBtree _ (by omega : shBtree.cost X1 ≤ 1048576))
 have hct := HCOST.out hc100 hc101
 have HRL0 := hd_ (shCache.fit_of (m := 4294967296) (by have := hct; omega : shCache.cost r0 ≤ 4294967296)); have HRK0 := hd_ (fewCache _ (by have := hct; omega : shCache.cost r0 ≤ 4194304))
 clear hct
 clear hc100 hc101 hm1_1 hm1_2
 have nz1 : (z1 != z1) = false := by simp
 go_upto_region 8 with (first | fail | (refine wpList_loadAll rfl 31 (.tmp 3) rfl (w.heap.size) rfl (HR2.out.get 1 rfl) Tryz.underlying31 rfl HS_p0.out ?_; simp only [pz]) | (refine wpList_loadAll rfl 34 (.tmp 4) rfl (w.heap.size + 1) rfl (HR2.out.get 0 rfl) Tryz.underlying34 rfl HS_p1.out ?_; simp only [pz]))
 have hst3 := HR2.out
 refine via_stand hst3 (X := Nat × Nat × Nat × List Value × List Value × List Value) (fun A (⟨V, L, U, y0, y1, y9⟩ : Nat × Nat × Nat × List Value × List Value × List Value) => (((((((((((A.put (some 30) (.agg vs0.toArray)).put (some 31) (.agg y0.toArray)).put (some 32) (.agg vs1.toArray)).put (some 33) (.agg y1.toArray)).put (some 34) (.int .i64 s2)).put (some 35) (.tuple #[.agg y9.toArray, .int .i64 z1])).put (some 29) (.tuple #[.agg y9.toArray, .int .i64 z1])).put (some 36) (.agg y9.toArray)).put (some 37) (.int .i64 z1)).put (some 8) (.pointer (some ⟨V, 0, none⟩))).put (some 9) (.int .i64 z1))) (fun (⟨V, L, U, y0, y1, y9⟩ : Nat × Nat × Nat × List Value × List Value × List Value) => [(V, V + 1, fun W => Blk W V 44 y9.toArray), (L, U, fun W => RSh shCache W L U y9 r0)]) (fun _ => false) (fun W => Blk W (w.heap.size) 31 vs0.toArray ∧ Blk W (w.heap.size + 1) 34 vs1.toArray) (by kernel_rfl) ⟨(HR2.out.get 1 rfl).drewN 1, (HR2.out.get 0 rfl).drewN 1⟩ (fun hHeld => ?_) ?_
 ·skip
  have R4 := HR2.out.drew; have q4 : w2.heap.size ≤ w2.drew.heap.size := Nat.le_refl _
  have HR4 := hd_ R4; clear R4 HR2
  clear hst3
  generalize w2.drew = w104 at *
  refine tX 0 30 (.agg vs0.toArray) (fun W hW => exec_loadAll 31 (.tmp 3) rfl (w.heap.size) rfl hW.1 Tryz.underlying31 rfl HS_p0.out) ?_
  simp only [pz]
  refine tX 2 32 (.agg vs1.toArray) (fun W hW => exec_loadAll 34 (.tmp 4) rfl (w.heap.size + 1) rfl hW.2 Tryz.underlying34 rfl HS_p1.out) ?_
  simp only [pz]
  (refine tA 4 34 ?_; simp only [pz])
  refine AnyT.either (i := 1) (j := 9) (by kernel_rfl) rfl rfl (fun K hK => ?_) (fun K hK => ?_)
  ·skip
   go_simp
   refine (toCache_o X0 vs0 0 w.heap.size _ (HR4.out.get 3 rfl) (HR4.out.le 3 rfl) HF0.out).mono ?_
   rintro e5 w5 ⟨us5, rfl, hx5, hb5⟩
   have R5 := (HR4.out.below hb5).add _ _ _ (loc_own shCache _ _ us5 X0) (Nat.le_refl _) hx5; have q5 := hb5.size
   have HS_t0 := hd_ (size_of sizeICache hx5.reads); have HO_t0 := hd_ (shCache.R_one hx5.reads)
   have HR5 := hd_ R5; clear R5 HR4 hx5 hb5
   go_simp
   refine hK.out _ _ ⟨(HR5.out.get 2 rfl), (HR5.out.get 1 rfl)⟩ (fun hHeld => ?_)
   clear hK K
   (try simp only [pz])
   refine AnyT.either (i := 3) (j := 9) (by kernel_rfl) rfl rfl (fun K hK => ?_) (fun K hK => ?_)
   ·skip
    go_simp
    refine (toBtree_o X1 vs1 0 w.heap.size _ (HR5.out.get 3 rfl) (HR5.out.le 3 rfl) HF1.out).mono ?_
    rintro e6 w6 ⟨us6, rfl, hx6, hb6⟩
    have R6 := (HR5.out.below hb6).add _ _ _ (loc_own shBtree _ _ us6 X1) (Nat.le_refl _) hx6; have q6 := hb6.size
    have HS_t1 := hd_ (size_of sizeIBtree hx6.reads); have HO_t1 := hd_ (shBtree.R_one hx6.reads)
    have HR6 := hd_ R6; clear R6 HR5 hx6 hb6
    go_simp
    refine hK.out _ _ ⟨(HR6.out.get 3 rfl), (HR6.out.get 2 rfl)⟩ (fun hHeld => ?_)
    clear hK K
    (try simp only [pz])
    refine AnyT.either (i := 5) (j := 9) (by kernel_rfl) rfl rfl (fun K hK => ?_) (fun K hK => ?_)
    ·skip
     go_simp
     refine (HSP.out HF0.out HF1.out _ _ _ _ _ _ _ (HR6.out.get 1 rfl).reads (HR6.out.le 1 rfl) (HR6.out.get 0 rfl).reads (HR6.out.le 0 rfl)).mono ?_
     rintro e7 w7 ⟨w0, rfl, hx7_0, hb7⟩
     have q7 := hb7.size
     have R7 := HR6.out.below hb7
     have R7 := R7.add _ _ _ (loc_sh shCache _ _ w0 r0) (Nat.le_refl _) hx7_0
     have HS_w0 := hd_ (size_of sizeICache hx7_0); have HO_w0 := hd_ (shCache.R_one hx7_0)
     have HR7 := hd_ R7; clear R7 HR6 hb7 hx7_0
     go_simp
     refine hK.out _ _ ⟨(HR7.out.get 4 rfl), (HR7.out.get 3 rfl)⟩ (fun hHeld => ?_)
     clear hK K
     (try simp only [pz])
     (refine tA 6 29 ?_; simp only [pz])
     (refine tA 7 36 ?_; simp only [pz])
     (refine tA 8 37 ?_; simp only [pz])
     refine oNe 9 fun K hK => ?_
     go_simp
     have R8 := HR7.out.box 44 zz9
     have q8 : w7.heap.size + 1 ≤ (w7.alloc (.cells zz9 44)).heap.size ∧ (w7.alloc (.cells zz9 44)).heap.size ≤ w7.heap.size + 1 := by simp
     have HR8 := hd_ R8; clear R8 HR7
     refine hK.out _ _ ⟨(HR8.out.get 5 rfl), (HR8.out.get 4 rfl)⟩ (fun hHeld => ?_)
     clear hK K
     (try simp only [pz])
     generalize (w7.alloc (.cells zz9 44)) = w108 at *
     have HZ9 : Hid ((zz9 : Array Value).size = w0.toArray.size) := hd_ (Option.some.inj ((show (Tryz.prog.info? 44).map (·.size) = some _ from by kernel_rfl).symm.trans HS_w0.out))
     refine AnyT.storeAll (i := 10) (by kernel_rfl) rfl rfl 44 (.tmp 8) (.tmp 36) rfl (w7.heap.size) w0.toArray rfl rfl (HR8.out.get 0 rfl) HS_w0.out HZ9.out (fun u hu => HO_w0.out u (by simpa using hu)) (fun w109 hk ho hz => ⟨⟨(HR8.out.get 5 rfl).outOf ho (by omega), (HR8.out.get 4 rfl).outOf ho (by omega)⟩, fun hHeld => ?_⟩)
     (try simp only [pz])
     have R9 := HR8.out.only [0, 1, 4, 5, 6, 7]
     simp only [List.filterMap_cons, List.filterMap_nil, List.getElem?_cons_zero, List.getElem?_cons_succ] at R9
     (refine tA 11 9 ?_; simp only [pz])
     refine AnyT.done (by kernel_rfl) ?_ _
     exact Via.normal (w7.heap.size, _, _, us5, us6, w0) (by dsimp only) (R9.putAll (by omega) (List.forall_mem_cons.2 ⟨by dsimp only; omega, List.forall_mem_cons.2 ⟨by dsimp only; omega, List.forall_mem_cons.2 ⟨by dsimp only; omega, List.forall_mem_cons.2 ⟨by dsimp only; omega, List.forall_mem_cons.2 ⟨by dsimp only; omega, List.forall_mem_nil _⟩⟩⟩⟩⟩) hk ho)
    ·skip
     go_simp
     have R10 := HR6.out.box 44 zz9
     have q10 : w6.heap.size + 1 ≤ (w6.alloc (.cells zz9 44)).heap.size ∧ (w6.alloc (.cells zz9 44)).heap.size ≤ w6.heap.size + 1 := by simp
     have HR10 := hd_ R10; clear R10 HR6
     refine hK.out _ _ ⟨(HR10.out.get 4 rfl), (HR10.out.get 3 rfl)⟩ (fun hHeld => ?_)
     clear hK K
     (try simp only [pz])
     generalize (w6.alloc (.cells zz9 44)) = w110 at *
     refine oNe 5 fun K hK => ?_
     go_simp
     refine (HSP.out HF0.out HF1.out _ _ _ _ _ _ _ (HR10.out.get 2 rfl).reads (HR10.out.le 2 rfl) (HR10.out.get 1 rfl).reads (HR10.out.le 1 rfl)).mono ?_
     rintro e11 w11 ⟨w0, rfl, hx11_0, hb11⟩
     have q11 := hb11.size
     have R11 := HR10.out.below hb11
     have R11 := R11.add _ _ _ (loc_sh shCache _ _ w0 r0) (Nat.le_refl _) hx11_0
     have HS_w0 := hd_ (size_of sizeICache hx11_0); have HO_w0 := hd_ (shCache.R_one hx11_0)
     have HR11 := hd_ R11; clear R11 HR10 hb11 hx11_0
     go_simp
     refine hK.out _ _ ⟨(HR11.out.get 5 rfl), (HR11.out.get 4 rfl)⟩ (fun hHeld => ?_)
     clear hK K
     (try simp only [pz])
     (refine tA 6 29 ?_; simp only [pz])
     (refine tA 7 36 ?_; simp only [pz])
     (refine tA 8 37 ?_; simp only [pz])
     have HZ12 : Hid ((zz9 : Array Value).size = w0.toArray.size) := hd_ (Option.some.inj ((show (Tryz.prog.info? 44).map (·.size) = some _ from by kernel_rfl).symm.trans HS_w0.out))
     refine AnyT.storeAll (i := 10) (by kernel_rfl) rfl rfl 44 (.tmp 8) (.tmp 36) rfl (w6.heap.size) w0.toArray rfl rfl (HR11.out.get 1 rfl) HS_w0.out HZ12.out (fun u hu => HO_w0.out u (by simpa using hu)) (fun w112 hk ho hz => ⟨⟨(HR11.out.get 5 rfl).outOf ho (by omega), (HR11.out.get 4 rfl).outOf ho (by omega)⟩, fun hHeld => ?_⟩)
     (try simp only [pz])
     have R12 := HR11.out.only [1, 0, 4, 5, 6, 7]
     simp only [List.filterMap_cons, List.filterMap_nil, List.getElem?_cons_zero, List.getElem?_cons_succ] at R12
     (refine tA 11 9 ?_; simp only [pz])
     refine AnyT.done (by kernel_rfl) ?_ _
     exact Via.normal (w6.heap.size, _, _, us5, us6, w0) (by dsimp only) (R12.putAll (by omega) (List.forall_mem_cons.2 ⟨by dsimp only; omega, List.forall_mem_cons.2 ⟨by dsimp only; omega, List.forall_mem_cons.2 ⟨by dsimp only; omega, List.forall_mem_cons.2 ⟨by dsimp only; omega, List.forall_mem_cons.2 ⟨by dsimp only; omega, List.forall_mem_nil _⟩⟩⟩⟩⟩) hk ho)
   ·skip
    go_simp
    have R13 := HR5.out.box 44 zz9
    have q13 : w5.heap.size + 1 ≤ (w5.alloc (.cells zz9 44)).heap.size ∧ (w5.alloc (.cells zz9 44)).heap.size ≤ w5.heap.size + 1 := by simp
    have HR13 := hd_ R13; clear R13 HR5
    refine hK.out _ _ ⟨(HR13.out.get 3 rfl), (HR13.out.get 2 rfl)⟩ (fun hHeld => ?_)
    clear hK K
    (try simp only [pz])
    generalize (w5.alloc (.cells zz9 44)) = w113 at *
    refine oNe 3 fun K hK => ?_
    go_simp
    refine (toBtree_o X1 vs1 0 w.heap.size _ (HR13.out.get 4 rfl) (HR13.out.le 4 rfl) HF1.out).mono ?_
    rintro e14 w14 ⟨us14, rfl, hx14, hb14⟩
    have R14 := (HR13.out.below hb14).add _ _ _ (loc_own shBtree _ _ us14 X1) (Nat.le_refl _) hx14; have q14 := hb14.size
    have HS_t1 := hd_ (size_of sizeIBtree hx14.reads); have HO_t1 := hd_ (shBtree.R_one hx14.reads)
    have HR14 := hd_ R14; clear R14 HR13 hx14 hb14
    go_simp
    refine hK.out _ _ ⟨(HR14.out.get 4 rfl), (HR14.out.get 3 rfl)⟩ (fun hHeld => ?_)
    clear hK K
    (try simp only [pz])
    refine oNe 5 fun K hK => ?_
    go_simp
    refine (HSP.out HF0.out HF1.out _ _ _ _ _ _ _ (HR14.out.get 2 rfl).reads (HR14.out.le 2 rfl) (HR14.out.get 0 rfl).reads (HR14.out.le 0 rfl)).mono ?_
    rintro e15 w15 ⟨w0, rfl, hx15_0, hb15⟩
    have q15 := hb15.size
    have R15 := HR14.out.below hb15
    have R15 := R15.add _ _ _ (loc_sh shCache _ _ w0 r0) (Nat.le_refl _) hx15_0
    have HS_w0 := hd_ (size_of sizeICache hx15_0); have HO_w0 := hd_ (shCache.R_one hx15_0)
    have HR15 := hd_ R15; clear R15 HR14 hb15 hx15_0
    go_simp
    refine hK.out _ _ ⟨(HR15.out.get 5 rfl), (HR15.out.get 4 rfl)⟩ (fun hHeld => ?_)
    clear hK K
    (try simp only [pz])
    (refine tA 6 29 ?_; simp only [pz])
    (refine tA 7 36 ?_; simp only [pz])
    (refine tA 8 37 ?_; simp only [pz])
    have HZ16 : Hid ((zz9 : Array Value).size = w0.toArray.size) := hd_ (Option.some.inj ((show (Tryz.prog.info? 44).map (·.size) = some _ from by kernel_rfl).symm.trans HS_w0.out))
    refine AnyT.storeAll (i := 10) (by kernel_rfl) rfl rfl 44 (.tmp 8) (.tmp 36) rfl (w5.heap.size) w0.toArray rfl rfl (HR15.out.get 2 rfl) HS_w0.out HZ16.out (fun u hu => HO_w0.out u (by simpa using hu)) (fun w116 hk ho hz => ⟨⟨(HR15.out.get 5 rfl).outOf ho (by omega), (HR15.out.get 4 rfl).outOf ho (by omega)⟩, fun hHeld => ?_⟩)
    (try simp only [pz])
    have R16 := HR15.out.only [2, 0, 4, 5, 6, 7]
    simp only [List.filterMap_cons, List.filterMap_nil, List.getElem?_cons_zero, List.getElem?_cons_succ] at R16
    (refine tA 11 9 ?_; simp only [pz])
    refine AnyT.done (by kernel_rfl) ?_ _
    exact Via.normal (w5.heap.size, _, _, us5, us14, w0) (by dsimp only) (R16.putAll (by omega) (List.forall_mem_cons.2 ⟨by dsimp only; omega, List.forall_mem_cons.2 ⟨by dsimp only; omega, List.forall_mem_cons.2 ⟨by dsimp only; omega, List.forall_mem_cons.2 ⟨by dsimp only; omega, List.forall_mem_cons.2 ⟨by dsimp only; omega, List.forall_mem_nil _⟩⟩⟩⟩⟩) hk ho)
  ·skip
   go_simp
   have R17 := HR4.out.box 44 zz9
   have q17 : w104.heap.size + 1 ≤ (w104.alloc (.cells zz9 44)).heap.size ∧ (w104.alloc (.cells zz9 44)).heap.size ≤ w104.heap.size + 1 := by simp
   have HR17 := hd_ R17; clear R17 HR4
   refine hK.out _ _ ⟨(HR17.out.get 2 rfl), (HR17.out.get 1 rfl)⟩ (fun hHeld => ?_)
   clear hK K
   (try simp only [pz])
   generalize (w104.alloc (.cells zz9 44)) = w117 at *
   refine oNe 1 fun K hK => ?_
   go_simp
   refine (toCache_o X0 vs0 0 w.heap.size _ (HR17.out.get 4 rfl) (HR17.out.le 4 rfl) HF0.out).mono ?_
   rintro e18 w18 ⟨us18, rfl, hx18, hb18⟩
   have R18 := (HR17.out.below hb18).add _ _ _ (loc_own shCache _ _ us18 X0) (Nat.le_refl _) hx18; have q18 := hb18.size
   have HS_t0 := hd_ (size_of sizeICache hx18.reads); have HO_t0 := hd_ (shCache.R_one hx18.reads)
   have HR18 := hd_ R18; clear R18 HR17 hx18 hb18
   go_simp
   refine hK.out _ _ ⟨(HR18.out.get 3 rfl), (HR18.out.get 2 rfl)⟩ (fun hHeld => ?_)
   clear hK K
   (try simp only [pz])
   refine oNe 3 fun K hK => ?_
   go_simp
   refine (toBtree_o X1 vs1 0 w.heap.size _ (HR18.out.get 4 rfl) (HR18.out.le 4 rfl) HF1.out).mono ?_
   rintro e19 w19 ⟨us19, rfl, hx19, hb19⟩
   have R19 := (HR18.out.below hb19).add _ _ _ (loc_own shBtree _ _ us19 X1) (Nat.le_refl _) hx19; have q19 := hb19.size
   have HS_t1 := hd_ (size_of sizeIBtree hx19.reads); have HO_t1 := hd_ (shBtree.R_one hx19.reads)
   have HR19 := hd_ R19; clear R19 HR18 hx19 hb19
   go_simp
   refine hK.out _ _ ⟨(HR19.out.get 4 rfl), (HR19.out.get 3 rfl)⟩ (fun hHeld => ?_)
   clear hK K
   (try simp only [pz])
   refine oNe 5 fun K hK => ?_
   go_simp
   refine (HSP.out HF0.out HF1.out _ _ _ _ _ _ _ (HR19.out.get 1 rfl).reads (HR19.out.le 1 rfl) (HR19.out.get 0 rfl).reads (HR19.out.le 0 rfl)).mono ?_
   rintro e20 w20 ⟨w0, rfl, hx20_0, hb20⟩
   have q20 := hb20.size
   have R20 := HR19.out.below hb20
   have R20 := R20.add _ _ _ (loc_sh shCache _ _ w0 r0) (Nat.le_refl _) hx20_0
   have HS_w0 := hd_ (size_of sizeICache hx20_0); have HO_w0 := hd_ (shCache.R_one hx20_0)
   have HR20 := hd_ R20; clear R20 HR19 hb20 hx20_0
   go_simp
   refine hK.out _ _ ⟨(HR20.out.get 5 rfl), (HR20.out.get 4 rfl)⟩ (fun hHeld => ?_)
   clear hK K
   (try simp only [pz])
   (refine tA 6 29 ?_; simp only [pz])
   (refine tA 7 36 ?_; simp only [pz])
   (refine tA 8 37 ?_; simp only [pz])
   have HZ21 : Hid ((zz9 : Array Value).size = w0.toArray.size) := hd_ (Option.some.inj ((show (Tryz.prog.info? 44).map (·.size) = some _ from by kernel_rfl).symm.trans HS_w0.out))
   refine AnyT.storeAll (i := 10) (by kernel_rfl) rfl rfl 44 (.tmp 8) (.tmp 36) rfl (w104.heap.size) w0.toArray rfl rfl (HR20.out.get 3 rfl) HS_w0.out HZ21.out (fun u hu => HO_w0.out u (by simpa using hu)) (fun w121 hk ho hz => ⟨⟨(HR20.out.get 5 rfl).outOf ho (by omega), (HR20.out.get 4 rfl).outOf ho (by omega)⟩, fun hHeld => ?_⟩)
   (try simp only [pz])
   have R21 := HR20.out.only [3, 0, 4, 5, 6, 7]
   simp only [List.filterMap_cons, List.filterMap_nil, List.getElem?_cons_zero, List.getElem?_cons_succ] at R21
   (refine tA 11 9 ?_; simp only [pz])
   refine AnyT.done (by kernel_rfl) ?_ _
   exact Via.normal (w104.heap.size, _, _, us18, us19, w0) (by dsimp only) (R21.putAll (by omega) (List.forall_mem_cons.2 ⟨by dsimp only; omega, List.forall_mem_cons.2 ⟨by dsimp only; omega, List.forall_mem_cons.2 ⟨by dsimp only; omega, List.forall_mem_cons.2 ⟨by dsimp only; omega, List.forall_mem_cons.2 ⟨by dsimp only; omega, List.forall_mem_nil _⟩⟩⟩⟩⟩) hk ho)
 skip
 rintro ⟨V22, L22, U22, y0_22, y1_22, w0⟩ w122 hR22
 have R22 := hR22; clear hR22 hst3
 simp only [List.cons_append, List.nil_append] at R22
 have HR22 := hd_ R22; clear R22 HR2
 have HS_w0 := hd_ (size_of sizeICache (HR22.out.get 1 rfl)); have HO_w0 := hd_ (shCache.R_one (HR22.out.get 1 rfl))
 have q22 := (HR22.out.le 1 rfl); have q22v := (HR22.out.le 0 rfl)
 (try dsimp only at q22 q22v)
 have q22_0 := (HR22.out.le 2 rfl); (try dsimp only at q22_0)
 have q22_1 := (HR22.out.le 3 rfl); (try dsimp only at q22_1)
 have q22_2 := (HR22.out.le 4 rfl); (try dsimp only at q22_2)
 have q22_3 := (HR22.out.le 5 rfl); (try dsimp only at q22_3)
 (try simp only [pz])
 go_wp2_with (first | fail | (refine wpList_loadAll rfl 31 (.tmp 3) rfl (w.heap.size) rfl (HR22.out.get 3 rfl) Tryz.underlying31 rfl HS_p0.out ?_; simp only [pz]) | (refine wpList_loadAll rfl 34 (.tmp 4) rfl (w.heap.size + 1) rfl (HR22.out.get 2 rfl) Tryz.underlying34 rfl HS_p1.out ?_; simp only [pz]) | (refine wpList_loadAll rfl 44 (.tmp 8) rfl (V22) rfl (HR22.out.get 0 rfl) Tryz.underlying44 rfl HS_w0.out ?_; simp only [pz]))
 refine (toCache_o X0 vs0 0 w.heap.size _ (HR22.out.get 5 rfl) (HR22.out.le 5 rfl) HF0.out).mono ?_
 rintro e23 w23 ⟨us23, rfl, hx23, hb23⟩
 have R23 := (HR22.out.below hb23).add _ _ _ (loc_own shCache _ _ us23 X0) (Nat.le_refl _) hx23; have q23 := hb23.size
 have HS_x0 := hd_ (size_of sizeICache hx23.reads); have HO_x0 := hd_ (shCache.R_one hx23.reads)
 have HR23 := hd_ R23; clear R23 HR22 hx23 hb23
 have HZ24 := hd_ (Blk.new w23 44 zz9)
 have HZS24 : Hid ((zz9 : Array Value).size = us23.toArray.size) := hd_ (Option.some.inj ((show (Tryz.prog.info? 44).map (·.size) = some _ from by kernel_rfl).symm.trans HS_x0.out))
 go_upto_region 10 with (first | fail | (refine wpList_loadAll rfl 31 (.tmp 3) rfl (w.heap.size) rfl (HR23.out.get 4 rfl) Tryz.underlying31 rfl HS_p0.out ?_; simp only [pz]) | (refine wpList_loadAll rfl 34 (.tmp 4) rfl (w.heap.size + 1) rfl (HR23.out.get 3 rfl) Tryz.underlying34 rfl HS_p1.out ?_; simp only [pz]) | (refine wpList_loadAll rfl 44 (.tmp 8) rfl (V22) rfl (HR23.out.get 1 rfl) Tryz.underlying44 rfl HS_w0.out ?_; simp only [pz]) | (refine wpList_storeAll rfl 44 (.tmp 10) (.tmp 39) rfl w23.heap.size us23.toArray rfl rfl HZ24.out HS_x0.out HZS24.out (fun u hu => HO_x0.out u (by simpa using hu)) ?_; intro w24 hk24 ho24 hz24))
 (try simp only [pz])
 have q24 : w23.heap.size + 1 ≤ w24.heap.size ∧ w24.heap.size ≤ w23.heap.size + 1 := by rw [hz24]; simp
 have R24 := HR23.out.store hk24 ho24
 have HR24 := hd_ R24; clear R24 HR23 HZ24 HZS24 hk24 ho24 hz24
 go_wp2_with (first | fail | (refine wpList_loadAll rfl 31 (.tmp 3) rfl (w.heap.size) rfl (HR24.out.get 5 rfl) Tryz.underlying31 rfl HS_p0.out ?_; simp only [pz]) | (refine wpList_loadAll rfl 34 (.tmp 4) rfl (w.heap.size + 1) rfl (HR24.out.get 4 rfl) Tryz.underlying34 rfl HS_p1.out ?_; simp only [pz]) | (refine wpList_loadAll rfl 44 (.tmp 8) rfl (V22) rfl (HR24.out.get 2 rfl) Tryz.underlying44 rfl HS_w0.out ?_; simp only [pz]) | (refine wpList_loadAll rfl 44 (.tmp 10) rfl (w23.heap.size) rfl (HR24.out.get 0 rfl) Tryz.underlying44 rfl HS_x0.out ?_; simp only [pz]))
 refine (toBtree_o X1 vs1 0 w.heap.size _ (HR24.out.get 6 rfl) (HR24.out.le 6 rfl) HF1.out).mono ?_
 rintro e25 w25 ⟨us25, rfl, hx25, hb25⟩
 have R25 := (HR24.out.below hb25).add _ _ _ (loc_own shBtree _ _ us25 X1) (Nat.le_refl _) hx25; have q25 := hb25.size
 have HS_x1 := hd_ (size_of sizeIBtree hx25.reads); have HO_x1 := hd_ (shBtree.R_one hx25.reads)
 have HR25 := hd_ R25; clear R25 HR24 hx25 hb25
 have HZ26 := hd_ (Blk.new w25 50 #[.int .i64 0, .slice none 0 0])
 have HZS26 : Hid ((#[.int .i64 0, .slice none 0 0] : Array Value).size = us25.toArray.size) := hd_ (Option.some.inj ((show (Tryz.prog.info? 50).map (·.size) = some _ from by kernel_rfl).symm.trans HS_x1.out))
 go_upto_region 11 with (first | fail | (refine wpList_loadAll rfl 31 (.tmp 3) rfl (w.heap.size) rfl (HR25.out.get 6 rfl) Tryz.underlying31 rfl HS_p0.out ?_; simp only [pz]) | (refine wpList_loadAll rfl 34 (.tmp 4) rfl (w.heap.size + 1) rfl (HR25.out.get 5 rfl) Tryz.underlying34 rfl HS_p1.out ?_; simp only [pz]) | (refine wpList_loadAll rfl 44 (.tmp 8) rfl (V22) rfl (HR25.out.get 3 rfl) Tryz.underlying44 rfl HS_w0.out ?_; simp only [pz]) | (refine wpList_loadAll rfl 44 (.tmp 10) rfl (w23.heap.size) rfl (HR25.out.get 1 rfl) Tryz.underlying44 rfl HS_x0.out ?_; simp only [pz]) | (refine wpList_storeAll rfl 50 (.tmp 11) (.tmp 41) rfl w25.heap.size us25.toArray rfl rfl HZ26.out HS_x1.out HZS26.out (fun u hu => HO_x1.out u (by simpa using hu)) ?_; intro w26 hk26 ho26 hz26))
 (try simp only [pz])
 have q26 : w25.heap.size + 1 ≤ w26.heap.size ∧ w26.heap.size ≤ w25.heap.size + 1 := by rw [hz26]; simp
 have R26 := HR25.out.store hk26 ho26
 have HR26 := hd_ R26; clear R26 HR25 HZ26 HZS26 hk26 ho26 hz26
 go_wp2_with (first | fail | (refine wpList_loadAll rfl 31 (.tmp 3) rfl (w.heap.size) rfl (HR26.out.get 7 rfl) Tryz.underlying31 rfl HS_p0.out ?_; simp only [pz]) | (refine wpList_loadAll rfl 34 (.tmp 4) rfl (w.heap.size + 1) rfl (HR26.out.get 6 rfl) Tryz.underlying34 rfl HS_p1.out ?_; simp only [pz]) | (refine wpList_loadAll rfl 44 (.tmp 8) rfl (V22) rfl (HR26.out.get 4 rfl) Tryz.underlying44 rfl HS_w0.out ?_; simp only [pz]) | (refine wpList_loadAll rfl 44 (.tmp 10) rfl (w23.heap.size) rfl (HR26.out.get 2 rfl) Tryz.underlying44 rfl HS_x0.out ?_; simp only [pz]) | (refine wpList_loadAll rfl 50 (.tmp 11) rfl (w25.heap.size) rfl (HR26.out.get 0 rfl) Tryz.underlying50 rfl HS_x1.out ?_; simp only [pz]))
 refine (HIM.out HF0.out HF1.out _ _ _ _ _ _ _ (HR26.out.get 3 rfl).reads (HR26.out.le 3 rfl) (HR26.out.get 1 rfl).reads (HR26.out.le 1 rfl) HR26.out.1).mono ?_
 rintro e27 w27 ⟨g0, rfl, hx27_0, hb27⟩
 have q27 := hb27.size
 have R27 := HR26.out.below hb27
 have R27 := R27.add _ _ _ (loc_own shCache _ _ g0 r0) (Nat.le_refl _) hx27_0
 have HS_g0 := hd_ (size_of sizeICache hx27_0.reads); have HO_g0 := hd_ (shCache.R_one hx27_0.reads)
 have HR27 := hd_ R27; clear R27 HR26 hb27 hx27_0
 have HZ28 := hd_ (Blk.new w27 44 zz9)
 have HZS28 : Hid ((zz9 : Array Value).size = g0.toArray.size) := hd_ (Option.some.inj ((show (Tryz.prog.info? 44).map (·.size) = some _ from by kernel_rfl).symm.trans HS_g0.out))
 go_upto_region 12 with (first | fail | (refine wpList_loadAll rfl 31 (.tmp 3) rfl (w.heap.size) rfl (HR27.out.get 8 rfl) Tryz.underlying31 rfl HS_p0.out ?_; simp only [pz]) | (refine wpList_loadAll rfl 34 (.tmp 4) rfl (w.heap.size + 1) rfl (HR27.out.get 7 rfl) Tryz.underlying34 rfl HS_p1.out ?_; simp only [pz]) | (refine wpList_loadAll rfl 44 (.tmp 8) rfl (V22) rfl (HR27.out.get 5 rfl) Tryz.underlying44 rfl HS_w0.out ?_; simp only [pz]) | (refine wpList_loadAll rfl 44 (.tmp 10) rfl (w23.heap.size) rfl (HR27.out.get 3 rfl) Tryz.underlying44 rfl HS_x0.out ?_; simp only [pz]) | (refine wpList_loadAll rfl 50 (.tmp 11) rfl (w25.heap.size) rfl (HR27.out.get 1 rfl) Tryz.underlying50 rfl HS_x1.out ?_; simp only [pz]) | (refine wpList_storeAll rfl 44 (.tmp 12) (.tmp 47) rfl w27.heap.size g0.toArray rfl rfl HZ28.out HS_g0.out HZS28.out (fun u hu => HO_g0.out u (by simpa using hu)) ?_; intro w28 hk28 ho28 hz28))
 (try simp only [pz])
 have q28 : w27.heap.size + 1 ≤ w28.heap.size ∧ w28.heap.size ≤ w27.heap.size + 1 := by rw [hz28]; simp
 have R28 := HR27.out.store hk28 ho28
 have HR28 := hd_ R28; clear R28 HR27 HZ28 HZS28 hk28 ho28 hz28
 go_wp2_with (first | fail | (refine wpList_loadAll rfl 31 (.tmp 3) rfl (w.heap.size) rfl (HR28.out.get 9 rfl) Tryz.underlying31 rfl HS_p0.out ?_; simp only [pz]) | (refine wpList_loadAll rfl 34 (.tmp 4) rfl (w.heap.size + 1) rfl (HR28.out.get 8 rfl) Tryz.underlying34 rfl HS_p1.out ?_; simp only [pz]) | (refine wpList_loadAll rfl 44 (.tmp 8) rfl (V22) rfl (HR28.out.get 6 rfl) Tryz.underlying44 rfl HS_w0.out ?_; simp only [pz]) | (refine wpList_loadAll rfl 44 (.tmp 10) rfl (w23.heap.size) rfl (HR28.out.get 4 rfl) Tryz.underlying44 rfl HS_x0.out ?_; simp only [pz]) | (refine wpList_loadAll rfl 50 (.tmp 11) rfl (w25.heap.size) rfl (HR28.out.get 2 rfl) Tryz.underlying50 rfl HS_x1.out ?_; simp only [pz]) | (refine wpList_loadAll rfl 44 (.tmp 12) rfl (w27.heap.size) rfl (HR28.out.get 0 rfl) Tryz.underlying44 rfl HS_g0.out ?_; simp only [pz]))
 refine (eqCache_o r0 g0 w0 _ _ _ _ _ (HR28.out.get 1 rfl).reads (HR28.out.get 7 rfl) (HR28.out.le 1 rfl) (HR28.out.le 7 rfl) HRL0.out).mono ?_
 rintro e129 w129 ⟨rfl, hb29⟩; have q29 := hb29.size
 have R29 := HR28.out.below hb29
 have HR29 := hd_ R29; clear R29 HR28 hb29
 go_upto_region 14 with (first | fail | (refine wpList_loadAll rfl 31 (.tmp 3) rfl (w.heap.size) rfl (HR29.out.get 9 rfl) Tryz.underlying31 rfl HS_p0.out ?_; simp only [pz]) | (refine wpList_loadAll rfl 34 (.tmp 4) rfl (w.heap.size + 1) rfl (HR29.out.get 8 rfl) Tryz.underlying34 rfl HS_p1.out ?_; simp only [pz]) | (refine wpList_loadAll rfl 44 (.tmp 8) rfl (V22) rfl (HR29.out.get 6 rfl) Tryz.underlying44 rfl HS_w0.out ?_; simp only [pz]) | (refine wpList_loadAll rfl 44 (.tmp 10) rfl (w23.heap.size) rfl (HR29.out.get 4 rfl) Tryz.underlying44 rfl HS_x0.out ?_; simp only [pz]) | (refine wpList_loadAll rfl 50 (.tmp 11) rfl (w25.heap.size) rfl (HR29.out.get 2 rfl) Tryz.underlying50 rfl HS_x1.out ?_; simp only [pz]) | (refine wpList_loadAll rfl 44 (.tmp 12) rfl (w27.heap.size) rfl (HR29.out.get 0 rfl) Tryz.underlying44 rfl HS_g0.out ?_; simp only [pz]))
 refine AnyT.region (fun _ => false) (fun W => Blk W (w23.heap.size) 44 us23.toArray ∧ Blk W (w.heap.size) 31 vs0.toArray) (by kernel_rfl) ⟨(HR29.out.get 4 rfl).drewN 1, (HR29.out.get 9 rfl).drewN 1⟩ (fun hHeld => ?_)
 have R30 := HR29.out.drew; have q30 : w129.heap.size ≤ w129.drew.heap.size := Nat.le_refl _
 have HR30 := hd_ R30; clear R30 HR29
 generalize w129.drew = w130 at *
 refine tX 0 58 (.agg us23.toArray) (fun W hW => exec_loadAll 44 (.tmp 10) rfl (w23.heap.size) rfl hW.1 Tryz.underlying44 rfl HS_x0.out) ?_
 simp only [pz]
 refine tX 1 59 (.agg vs0.toArray) (fun W hW => exec_loadAll 31 (.tmp 3) rfl (w.heap.size) rfl hW.2 Tryz.underlying31 rfl HS_p0.out) ?_
 simp only [pz]
 refine oNe 2 fun K hK => ?_
 go_simp
 refine (toCache_o X0 vs0 0 w.heap.size _ (HR30.out.get 11 rfl) (HR30.out.le 11 rfl) HF0.out).mono ?_
 rintro e31 w31 ⟨us31, rfl, hx31, hb31⟩
 have R31 := (HR30.out.below hb31).add _ _ _ (loc_own shCache _ _ us31 X0) (Nat.le_refl _) hx31; have q31 := hb31.size
 have HS_y0 := hd_ (size_of sizeICache hx31.reads); have HO_y0 := hd_ (shCache.R_one hx31.reads)
 have HR31 := hd_ R31; clear R31 HR30 hx31 hb31
 go_simp
 refine hK.out _ _ ⟨(HR31.out.get 5 rfl), (HR31.out.get 10 rfl)⟩ (fun hHeld => ?_)
 clear hK K
 (try simp only [pz])
 refine oNe 3 fun K hK => ?_
 go_simp
 refine (eqCache_o X0 us23 us31 _ _ _ _ _ (HR31.out.get 6 rfl).reads (HR31.out.get 0 rfl).reads (HR31.out.le 6 rfl) (HR31.out.le 0 rfl) HL0.out).mono ?_
 rintro e132 w132 ⟨rfl, hb32⟩; have q32 := hb32.size
 go_simp
 have R32 := HR31.out.below hb32
 have HR32 := hd_ R32; clear R32 HR31 hb32
 refine hK.out _ _ ⟨(HR32.out.get 5 rfl), (HR32.out.get 10 rfl)⟩ (fun hHeld => ?_)
 clear hK K
 (try simp only [pz])
 (refine tA 4 62 ?_; simp only [pz])
 refine AnyT.done (by kernel_rfl) ?_ _
 clear hHeld
 go_upto_region 16 with (first | fail | (refine wpList_loadAll rfl 31 (.tmp 3) rfl (w.heap.size) rfl (HR32.out.get 10 rfl) Tryz.underlying31 rfl HS_p0.out ?_; simp only [pz]) | (refine wpList_loadAll rfl 34 (.tmp 4) rfl (w.heap.size + 1) rfl (HR32.out.get 9 rfl) Tryz.underlying34 rfl HS_p1.out ?_; simp only [pz]) | (refine wpList_loadAll rfl 44 (.tmp 8) rfl (V22) rfl (HR32.out.get 7 rfl) Tryz.underlying44 rfl HS_w0.out ?_; simp only [pz]) | (refine wpList_loadAll rfl 44 (.tmp 10) rfl (w23.heap.size) rfl (HR32.out.get 5 rfl) Tryz.underlying44 rfl HS_x0.out ?_; simp only [pz]) | (refine wpList_loadAll rfl 50 (.tmp 11) rfl (w25.heap.size) rfl (HR32.out.get 3 rfl) Tryz.underlying50 rfl HS_x1.out ?_; simp only [pz]) | (refine wpList_loadAll rfl 44 (.tmp 12) rfl (w27.heap.size) rfl (HR32.out.get 1 rfl) Tryz.underlying44 rfl HS_g0.out ?_; simp only [pz]))
 refine AnyT.region (fun _ => false) (fun W => Blk W (w25.heap.size) 50 us25.toArray ∧ Blk W (w.heap.size + 1) 34 vs1.toArray) (by kernel_rfl) ⟨(HR32.out.get 3 rfl).drewN 1, (HR32.out.get 9 rfl).drewN 1⟩ (fun hHeld => ?_)
 have R33 := HR32.out.drew; have q33 : w132.heap.size ≤ w132.drew.heap.size := Nat.le_refl _
 have HR33 := hd_ R33; clear R33 HR32
 generalize w132.drew = w133 at *
 refine tX 0 63 (.agg us25.toArray) (fun W hW => exec_loadAll 50 (.tmp 11) rfl (w25.heap.size) rfl hW.1 Tryz.underlying50 rfl HS_x1.out) ?_
 simp only [pz]
 refine tX 1 64 (.agg vs1.toArray) (fun W hW => exec_loadAll 34 (.tmp 4) rfl (w.heap.size + 1) rfl hW.2 Tryz.underlying34 rfl HS_p1.out) ?_
 simp only [pz]
 refine oNe 2 fun K hK => ?_
 go_simp
 refine (toBtree_o X1 vs1 0 w.heap.size _ (HR33.out.get 11 rfl) (HR33.out.le 11 rfl) HF1.out).mono ?_
 rintro e34 w34 ⟨us34, rfl, hx34, hb34⟩
 have R34 := (HR33.out.below hb34).add _ _ _ (loc_own shBtree _ _ us34 X1) (Nat.le_refl _) hx34; have q34 := hb34.size
 have HS_y1 := hd_ (size_of sizeIBtree hx34.reads); have HO_y1 := hd_ (shBtree.R_one hx34.reads)
 have HR34 := hd_ R34; clear R34 HR33 hx34 hb34
 go_simp
 refine hK.out _ _ ⟨(HR34.out.get 4 rfl), (HR34.out.get 10 rfl)⟩ (fun hHeld => ?_)
 clear hK K
 (try simp only [pz])
 refine oNe 3 fun K hK => ?_
 go_simp
 refine (eqBtree_o X1 us25 us34 _ _ _ _ _ (HR34.out.get 5 rfl).reads (HR34.out.get 0 rfl).reads (HR34.out.le 5 rfl) (HR34.out.le 0 rfl) HL1.out).mono ?_
 rintro e135 w135 ⟨rfl, hb35⟩; have q35 := hb35.size
 go_simp
 have R35 := HR34.out.below hb35
 have HR35 := hd_ R35; clear R35 HR34 hb35
 refine hK.out _ _ ⟨(HR35.out.get 4 rfl), (HR35.out.get 10 rfl)⟩ (fun hHeld => ?_)
 clear hK K
 (try simp only [pz])
 (refine tA 4 67 ?_; simp only [pz])
 refine AnyT.done (by kernel_rfl) ?_ _
 clear hHeld
 go_wp2_with (first | fail | (refine wpList_loadAll rfl 31 (.tmp 3) rfl (w.heap.size) rfl (HR35.out.get 11 rfl) Tryz.underlying31 rfl HS_p0.out ?_; simp only [pz]) | (refine wpList_loadAll rfl 34 (.tmp 4) rfl (w.heap.size + 1) rfl (HR35.out.get 10 rfl) Tryz.underlying34 rfl HS_p1.out ?_; simp only [pz]) | (refine wpList_loadAll rfl 44 (.tmp 8) rfl (V22) rfl (HR35.out.get 8 rfl) Tryz.underlying44 rfl HS_w0.out ?_; simp only [pz]) | (refine wpList_loadAll rfl 44 (.tmp 10) rfl (w23.heap.size) rfl (HR35.out.get 6 rfl) Tryz.underlying44 rfl HS_x0.out ?_; simp only [pz]) | (refine wpList_loadAll rfl 50 (.tmp 11) rfl (w25.heap.size) rfl (HR35.out.get 4 rfl) Tryz.underlying50 rfl HS_x1.out ?_; simp only [pz]) | (refine wpList_loadAll rfl 44 (.tmp 12) rfl (w27.heap.size) rfl (HR35.out.get 2 rfl) Tryz.underlying44 rfl HS_g0.out ?_; simp only [pz]))
 obtain ⟨FO36, hO36, hN36, hr36⟩ := (HR35.out.get 7 rfl)
 have le36 := (HR35.out.le 7 rfl)
 refine (markCache_o X0 us23 (1) _ FO36 _ hO36 hN36 rfl (by omega) (by have := HK0.out; have := HK1.out; omega)).mono ?_
 rintro e136 w136 ⟨m36, rfl, hm36, hp36, ho36⟩
 have q36 := ho36.size
 have R36 := ((HR35.out.only [0, 1, 2, 3, 4, 5, 6, 8, 9, 10, 11, 12, 13]).within (Within.of_out ho36 hr36) (by omega) (by
  intro f hf
  simp only [List.filterMap_cons, List.filterMap_nil, List.getElem?_cons_zero, List.getElem?_cons_succ, List.mem_cons, List.not_mem_nil, or_false] at hf
  rcases hf with rfl | rfl | rfl | rfl | rfl | rfl | rfl | rfl | rfl | rfl | rfl | rfl | rfl
  all_goals (simp only; omega)))
 have HR36 := hd_ R36; clear R36 HR35 hO36 hN36 hp36 ho36
 have nk36 : decide (m36 < 0) = false := decide_eq_false (by omega)
 have HM36 := hd_ hm36; clear hm36
 go_wp2_with (first | fail | (refine wpList_loadAll rfl 31 (.tmp 3) rfl (w.heap.size) rfl (HR36.out.get 10 rfl) Tryz.underlying31 rfl HS_p0.out ?_; simp only [pz]) | (refine wpList_loadAll rfl 34 (.tmp 4) rfl (w.heap.size + 1) rfl (HR36.out.get 9 rfl) Tryz.underlying34 rfl HS_p1.out ?_; simp only [pz]) | (refine wpList_loadAll rfl 44 (.tmp 8) rfl (V22) rfl (HR36.out.get 7 rfl) Tryz.underlying44 rfl HS_w0.out ?_; simp only [pz]) | (refine wpList_loadAll rfl 44 (.tmp 10) rfl (w23.heap.size) rfl (HR36.out.get 6 rfl) Tryz.underlying44 rfl HS_x0.out ?_; simp only [pz]) | (refine wpList_loadAll rfl 50 (.tmp 11) rfl (w25.heap.size) rfl (HR36.out.get 4 rfl) Tryz.underlying50 rfl HS_x1.out ?_; simp only [pz]) | (refine wpList_loadAll rfl 44 (.tmp 12) rfl (w27.heap.size) rfl (HR36.out.get 2 rfl) Tryz.underlying44 rfl HS_g0.out ?_; simp only [pz]))
 obtain ⟨FO37, hO37, hN37, hr37⟩ := (HR36.out.get 5 rfl)
 have le37 := (HR36.out.le 5 rfl)
 refine (markBtree_o X1 us25 (1 + shCache.cntTop X0) _ FO37 _ hO37 hN37 HM36.out (by omega) (by have := HK0.out; have := HK1.out; omega)).mono ?_
 rintro e137 w137 ⟨m37, rfl, hm37, hp37, ho37⟩
 have q37 := ho37.size
 have R37 := ((HR36.out.only [0, 1, 2, 3, 4, 6, 7, 8, 9, 10, 11, 12]).within (Within.of_out ho37 hr37) (by omega) (by
  intro f hf
  simp only [List.filterMap_cons, List.filterMap_nil, List.getElem?_cons_zero, List.getElem?_cons_succ, List.mem_cons, List.not_mem_nil, or_false] at hf
  rcases hf with rfl | rfl | rfl | rfl | rfl | rfl | rfl | rfl | rfl | rfl | rfl | rfl
  all_goals (simp only; omega)))
 have HR37 := hd_ R37; clear R37 HR36 hO37 hN37 hp37 ho37
 have nk37 : decide (m37 < 0) = false := decide_eq_false (by omega)
 have HM37 := hd_ hm37; clear hm37
 go_wp2_with (first | fail | (refine wpList_loadW 44 (.tmp 8) rfl rfl (V22) rfl (HR37.out.get 6 rfl) Tryz.underlying44 rfl HS_w0.out ?_; simp only [pz]) | (refine wpList_loadW 44 (.tmp 12) rfl rfl (w27.heap.size) rfl (HR37.out.get 2 rfl) Tryz.underlying44 rfl HS_g0.out ?_; simp only [pz]))
 refine (eqCache_o r0 g0 w0 _ _ _ _ _ (HR37.out.get 3 rfl).reads (HR37.out.get 7 rfl) (HR37.out.le 3 rfl) (HR37.out.le 7 rfl) HRL0.out).mono ?_
 rintro e138 w138 ⟨rfl, hb38⟩; have q38 := hb38.size
 have R38 := HR37.out.below hb38
 have HR38 := hd_ R38; clear R38 HR37 hb38
 go_wp2_with (first | fail | (refine wpList_loadAll rfl 31 (.tmp 3) rfl (w.heap.size) rfl (HR38.out.get 9 rfl) Tryz.underlying31 rfl HS_p0.out ?_; simp only [pz]) | (refine wpList_loadAll rfl 34 (.tmp 4) rfl (w.heap.size + 1) rfl (HR38.out.get 8 rfl) Tryz.underlying34 rfl HS_p1.out ?_; simp only [pz]) | (refine wpList_loadAll rfl 44 (.tmp 8) rfl (V22) rfl (HR38.out.get 6 rfl) Tryz.underlying44 rfl HS_w0.out ?_; simp only [pz]) | (refine wpList_loadAll rfl 44 (.tmp 10) rfl (w23.heap.size) rfl (HR38.out.get 5 rfl) Tryz.underlying44 rfl HS_x0.out ?_; simp only [pz]) | (refine wpList_loadAll rfl 50 (.tmp 11) rfl (w25.heap.size) rfl (HR38.out.get 4 rfl) Tryz.underlying50 rfl HS_x1.out ?_; simp only [pz]) | (refine wpList_loadAll rfl 44 (.tmp 12) rfl (w27.heap.size) rfl (HR38.out.get 2 rfl) Tryz.underlying44 rfl HS_g0.out ?_; simp only [pz]))
 obtain ⟨FO39, hO39, hN39, hr39⟩ := (HR38.out.get 3 rfl)
 have le39 := (HR38.out.le 3 rfl)
 refine (markCache_o r0 g0 (1) _ FO39 _ hO39 hN39 rfl (by omega) (by have := HRK0.out; omega)).mono ?_
 rintro e139 w139 ⟨m39, rfl, hm39, hp39, ho39⟩
 have q39 := ho39.size
 have hq39 := shCache.O_R hp39 hr39
 have R39 := ((HR38.out.only [0, 1, 2, 4, 5, 6, 7, 8, 9, 10, 11]).within (Within.of_out ho39 hr39) (by omega) (by
  intro f hf
  simp only [List.filterMap_cons, List.filterMap_nil, List.getElem?_cons_zero, List.getElem?_cons_succ, List.mem_cons, List.not_mem_nil, or_false] at hf
  rcases hf with rfl | rfl | rfl | rfl | rfl | rfl | rfl | rfl | rfl | rfl | rfl
  all_goals (simp only; omega)))
 have R39 := R39.add _ _ _ (loc_sh shCache _ _ g0 (shCache.top (1) r0)) (by omega) hq39
 have HR39 := hd_ R39; clear R39 HR38 hO39 hN39 hp39 ho39 hq39
 have nk39 : decide (m39 < 0) = false := decide_eq_false (by omega)
 have HM39 := hd_ hm39; clear hm39
 go_wp2_with (first | fail | (refine wpList_loadAll rfl 31 (.tmp 3) rfl (w.heap.size) rfl (HR39.out.get 9 rfl) Tryz.underlying31 rfl HS_p0.out ?_; simp only [pz]) | (refine wpList_loadAll rfl 34 (.tmp 4) rfl (w.heap.size + 1) rfl (HR39.out.get 8 rfl) Tryz.underlying34 rfl HS_p1.out ?_; simp only [pz]) | (refine wpList_loadAll rfl 44 (.tmp 8) rfl (V22) rfl (HR39.out.get 6 rfl) Tryz.underlying44 rfl HS_w0.out ?_; simp only [pz]) | (refine wpList_loadAll rfl 44 (.tmp 10) rfl (w23.heap.size) rfl (HR39.out.get 5 rfl) Tryz.underlying44 rfl HS_x0.out ?_; simp only [pz]) | (refine wpList_loadAll rfl 50 (.tmp 11) rfl (w25.heap.size) rfl (HR39.out.get 4 rfl) Tryz.underlying50 rfl HS_x1.out ?_; simp only [pz]) | (refine wpList_loadAll rfl 44 (.tmp 12) rfl (w27.heap.size) rfl (HR39.out.get 3 rfl) Tryz.underlying44 rfl HS_g0.out ?_; simp only [pz]))
 refine (heldCache_o r0 g0 (1) _ _ _ _ (HR39.out.get 0 rfl) (HR39.out.le 0 rfl) HRL0.out rfl (by omega) (by have := HRK0.out; omega)).mono ?_
 rintro e140 w140 ⟨m40, rfl, hm40, hb40⟩; have q40 := hb40.size
 have R40 := HR39.out.below hb40
 have HR40 := hd_ R40; clear R40 HR39 hb40
 have nk40 : decide (m40 < 0) = false := decide_eq_false (by omega)
 have HM40 := hd_ hm40; clear hm40
 have nq40 : (m40 != m39) = false := by rw [HM40.out, HM39.out]; simp
 go_upto_region 31 with (first | fail | (refine wpList_loadAll rfl 31 (.tmp 3) rfl (w.heap.size) rfl (HR40.out.get 9 rfl) Tryz.underlying31 rfl HS_p0.out ?_; simp only [pz]) | (refine wpList_loadAll rfl 34 (.tmp 4) rfl (w.heap.size + 1) rfl (HR40.out.get 8 rfl) Tryz.underlying34 rfl HS_p1.out ?_; simp only [pz]) | (refine wpList_loadAll rfl 44 (.tmp 8) rfl (V22) rfl (HR40.out.get 6 rfl) Tryz.underlying44 rfl HS_w0.out ?_; simp only [pz]) | (refine wpList_loadAll rfl 44 (.tmp 10) rfl (w23.heap.size) rfl (HR40.out.get 5 rfl) Tryz.underlying44 rfl HS_x0.out ?_; simp only [pz]) | (refine wpList_loadAll rfl 50 (.tmp 11) rfl (w25.heap.size) rfl (HR40.out.get 4 rfl) Tryz.underlying50 rfl HS_x1.out ?_; simp only [pz]) | (refine wpList_loadAll rfl 44 (.tmp 12) rfl (w27.heap.size) rfl (HR40.out.get 3 rfl) Tryz.underlying44 rfl HS_g0.out ?_; simp only [pz]))
 have hst41 := HR40.out
 refine via_stand hst41 (X := Nat × Nat × Nat × List Value × List Value × List Value) (fun A (⟨V, L, U, y0, y1, y9⟩ : Nat × Nat × Nat × List Value × List Value × List Value) => (((((((((((A.put (some 99) (.agg vs0.toArray)).put (some 100) (.agg y0.toArray)).put (some 101) (.agg vs1.toArray)).put (some 102) (.agg y1.toArray)).put (some 103) (.int .i64 s2)).put (some 104) (.tuple #[.agg y9.toArray, .int .i64 z1])).put (some 98) (.tuple #[.agg y9.toArray, .int .i64 z1])).put (some 105) (.agg y9.toArray)).put (some 106) (.int .i64 z1)).put (some 17) (.pointer (some ⟨V, 0, none⟩))).put (some 18) (.int .i64 z1))) (fun (⟨V, L, U, y0, y1, y9⟩ : Nat × Nat × Nat × List Value × List Value × List Value) => [(V, V + 1, fun W => Blk W V 44 y9.toArray), (L, U, fun W => Own shCache W L U y9 r0)]) (fun _ => false) (fun W => Blk W (w.heap.size) 31 vs0.toArray ∧ Blk W (w.heap.size + 1) 34 vs1.toArray) (by kernel_rfl) ⟨(HR40.out.get 9 rfl).drewN 1, (HR40.out.get 8 rfl).drewN 1⟩ (fun hHeld => ?_) ?_
 ·skip
  have R42 := HR40.out.drew; have q42 : w140.heap.size ≤ w140.drew.heap.size := Nat.le_refl _
  have HR42 := hd_ R42; clear R42 HR40
  clear hst41
  generalize w140.drew = w142 at *
  refine tX 0 99 (.agg vs0.toArray) (fun W hW => exec_loadAll 31 (.tmp 3) rfl (w.heap.size) rfl hW.1 Tryz.underlying31 rfl HS_p0.out) ?_
  simp only [pz]
  refine tX 2 101 (.agg vs1.toArray) (fun W hW => exec_loadAll 34 (.tmp 4) rfl (w.heap.size + 1) rfl hW.2 Tryz.underlying34 rfl HS_p1.out) ?_
  simp only [pz]
  (refine tA 4 103 ?_; simp only [pz])
  refine AnyT.either (i := 1) (j := 9) (by kernel_rfl) rfl rfl (fun K hK => ?_) (fun K hK => ?_)
  ·skip
   go_simp
   refine (toCache_o X0 vs0 0 w.heap.size _ (HR42.out.get 11 rfl) (HR42.out.le 11 rfl) HF0.out).mono ?_
   rintro e43 w43 ⟨us43, rfl, hx43, hb43⟩
   have R43 := (HR42.out.below hb43).add _ _ _ (loc_own shCache _ _ us43 X0) (Nat.le_refl _) hx43; have q43 := hb43.size
   have HS_u0 := hd_ (size_of sizeICache hx43.reads); have HO_u0 := hd_ (shCache.R_one hx43.reads)
   have HR43 := hd_ R43; clear R43 HR42 hx43 hb43
   go_simp
   refine hK.out _ _ ⟨(HR43.out.get 10 rfl), (HR43.out.get 9 rfl)⟩ (fun hHeld => ?_)
   clear hK K
   (try simp only [pz])
   refine AnyT.either (i := 3) (j := 9) (by kernel_rfl) rfl rfl (fun K hK => ?_) (fun K hK => ?_)
   ·skip
    go_simp
    refine (toBtree_o X1 vs1 0 w.heap.size _ (HR43.out.get 11 rfl) (HR43.out.le 11 rfl) HF1.out).mono ?_
    rintro e44 w44 ⟨us44, rfl, hx44, hb44⟩
    have R44 := (HR43.out.below hb44).add _ _ _ (loc_own shBtree _ _ us44 X1) (Nat.le_refl _) hx44; have q44 := hb44.size
    have HS_u1 := hd_ (size_of sizeIBtree hx44.reads); have HO_u1 := hd_ (shBtree.R_one hx44.reads)
    have HR44 := hd_ R44; clear R44 HR43 hx44 hb44
    go_simp
    refine hK.out _ _ ⟨(HR44.out.get 11 rfl), (HR44.out.get 10 rfl)⟩ (fun hHeld => ?_)
    clear hK K
    (try simp only [pz])
    refine AnyT.either (i := 5) (j := 9) (by kernel_rfl) rfl rfl (fun K hK => ?_) (fun K hK => ?_)
    ·skip
     go_simp
     refine (HIM.out HF0.out HF1.out _ _ _ _ _ _ _ (HR44.out.get 1 rfl).reads (HR44.out.le 1 rfl) (HR44.out.get 0 rfl).reads (HR44.out.le 0 rfl) HR44.out.1).mono ?_
     rintro e45 w45 ⟨v0, rfl, hx45_0, hb45⟩
     have q45 := hb45.size
     have R45 := HR44.out.below hb45
     have R45 := R45.add _ _ _ (loc_own shCache _ _ v0 r0) (Nat.le_refl _) hx45_0
     have HS_v0 := hd_ (size_of sizeICache hx45_0.reads); have HO_v0 := hd_ (shCache.R_one hx45_0.reads)
     have HR45 := hd_ R45; clear R45 HR44 hb45 hx45_0
     go_simp
     refine hK.out _ _ ⟨(HR45.out.get 12 rfl), (HR45.out.get 11 rfl)⟩ (fun hHeld => ?_)
     clear hK K
     (try simp only [pz])
     (refine tA 6 98 ?_; simp only [pz])
     (refine tA 7 105 ?_; simp only [pz])
     (refine tA 8 106 ?_; simp only [pz])
     refine oNe 9 fun K hK => ?_
     go_simp
     have R46 := HR45.out.box 44 zz9
     have q46 : w45.heap.size + 1 ≤ (w45.alloc (.cells zz9 44)).heap.size ∧ (w45.alloc (.cells zz9 44)).heap.size ≤ w45.heap.size + 1 := by simp
     have HR46 := hd_ R46; clear R46 HR45
     refine hK.out _ _ ⟨(HR46.out.get 13 rfl), (HR46.out.get 12 rfl)⟩ (fun hHeld => ?_)
     clear hK K
     (try simp only [pz])
     generalize (w45.alloc (.cells zz9 44)) = w146 at *
     have HZ47 : Hid ((zz9 : Array Value).size = v0.toArray.size) := hd_ (Option.some.inj ((show (Tryz.prog.info? 44).map (·.size) = some _ from by kernel_rfl).symm.trans HS_v0.out))
     refine AnyT.storeAll (i := 10) (by kernel_rfl) rfl rfl 44 (.tmp 17) (.tmp 105) rfl (w45.heap.size) v0.toArray rfl rfl (HR46.out.get 0 rfl) HS_v0.out HZ47.out (fun u hu => HO_v0.out u (by simpa using hu)) (fun w147 hk ho hz => ⟨⟨(HR46.out.get 13 rfl).outOf ho (by omega), (HR46.out.get 12 rfl).outOf ho (by omega)⟩, fun hHeld => ?_⟩)
     (try simp only [pz])
     have R47 := HR46.out.only [0, 1, 4, 5, 6, 7, 8, 9, 10, 11, 12, 13, 14, 15]
     simp only [List.filterMap_cons, List.filterMap_nil, List.getElem?_cons_zero, List.getElem?_cons_succ] at R47
     (refine tA 11 18 ?_; simp only [pz])
     refine AnyT.done (by kernel_rfl) ?_ _
     exact Via.normal (w45.heap.size, _, _, us43, us44, v0) (by dsimp only) (R47.putAll (by omega) (List.forall_mem_cons.2 ⟨by dsimp only; omega, List.forall_mem_cons.2 ⟨by dsimp only; omega, List.forall_mem_cons.2 ⟨by dsimp only; omega, List.forall_mem_cons.2 ⟨by dsimp only; omega, List.forall_mem_cons.2 ⟨by dsimp only; omega, List.forall_mem_cons.2 ⟨by dsimp only; omega, List.forall_mem_cons.2 ⟨by dsimp only; omega, List.forall_mem_cons.2 ⟨by dsimp only; omega, List.forall_mem_cons.2 ⟨by dsimp only; omega, List.forall_mem_cons.2 ⟨by dsimp only; omega, List.forall_mem_cons.2 ⟨by dsimp only; omega, List.forall_mem_cons.2 ⟨by dsimp only; omega, List.forall_mem_cons.2 ⟨by dsimp only; omega, List.forall_mem_nil _⟩⟩⟩⟩⟩⟩⟩⟩⟩⟩⟩⟩⟩) hk ho)
    ·skip
     go_simp
     have R48 := HR44.out.box 44 zz9
     have q48 : w44.heap.size + 1 ≤ (w44.alloc (.cells zz9 44)).heap.size ∧ (w44.alloc (.cells zz9 44)).heap.size ≤ w44.heap.size + 1 := by simp
     have HR48 := hd_ R48; clear R48 HR44
     refine hK.out _ _ ⟨(HR48.out.get 12 rfl), (HR48.out.get 11 rfl)⟩ (fun hHeld => ?_)
     clear hK K
     (try simp only [pz])
     generalize (w44.alloc (.cells zz9 44)) = w148 at *
     refine oNe 5 fun K hK => ?_
     go_simp
     refine (HIM.out HF0.out HF1.out _ _ _ _ _ _ _ (HR48.out.get 2 rfl).reads (HR48.out.le 2 rfl) (HR48.out.get 1 rfl).reads (HR48.out.le 1 rfl) HR48.out.1).mono ?_
     rintro e49 w49 ⟨v0, rfl, hx49_0, hb49⟩
     have q49 := hb49.size
     have R49 := HR48.out.below hb49
     have R49 := R49.add _ _ _ (loc_own shCache _ _ v0 r0) (Nat.le_refl _) hx49_0
     have HS_v0 := hd_ (size_of sizeICache hx49_0.reads); have HO_v0 := hd_ (shCache.R_one hx49_0.reads)
     have HR49 := hd_ R49; clear R49 HR48 hb49 hx49_0
     go_simp
     refine hK.out _ _ ⟨(HR49.out.get 13 rfl), (HR49.out.get 12 rfl)⟩ (fun hHeld => ?_)
     clear hK K
     (try simp only [pz])
     (refine tA 6 98 ?_; simp only [pz])
     (refine tA 7 105 ?_; simp only [pz])
     (refine tA 8 106 ?_; simp only [pz])
     have HZ50 : Hid ((zz9 : Array Value).size = v0.toArray.size) := hd_ (Option.some.inj ((show (Tryz.prog.info? 44).map (·.size) = some _ from by kernel_rfl).symm.trans HS_v0.out))
     refine AnyT.storeAll (i := 10) (by kernel_rfl) rfl rfl 44 (.tmp 17) (.tmp 105) rfl (w44.heap.size) v0.toArray rfl rfl (HR49.out.get 1 rfl) HS_v0.out HZ50.out (fun u hu => HO_v0.out u (by simpa using hu)) (fun w150 hk ho hz => ⟨⟨(HR49.out.get 13 rfl).outOf ho (by omega), (HR49.out.get 12 rfl).outOf ho (by omega)⟩, fun hHeld => ?_⟩)
     (try simp only [pz])
     have R50 := HR49.out.only [1, 0, 4, 5, 6, 7, 8, 9, 10, 11, 12, 13, 14, 15]
     simp only [List.filterMap_cons, List.filterMap_nil, List.getElem?_cons_zero, List.getElem?_cons_succ] at R50
     (refine tA 11 18 ?_; simp only [pz])
     refine AnyT.done (by kernel_rfl) ?_ _
     exact Via.normal (w44.heap.size, _, _, us43, us44, v0) (by dsimp only) (R50.putAll (by omega) (List.forall_mem_cons.2 ⟨by dsimp only; omega, List.forall_mem_cons.2 ⟨by dsimp only; omega, List.forall_mem_cons.2 ⟨by dsimp only; omega, List.forall_mem_cons.2 ⟨by dsimp only; omega, List.forall_mem_cons.2 ⟨by dsimp only; omega, List.forall_mem_cons.2 ⟨by dsimp only; omega, List.forall_mem_cons.2 ⟨by dsimp only; omega, List.forall_mem_cons.2 ⟨by dsimp only; omega, List.forall_mem_cons.2 ⟨by dsimp only; omega, List.forall_mem_cons.2 ⟨by dsimp only; omega, List.forall_mem_cons.2 ⟨by dsimp only; omega, List.forall_mem_cons.2 ⟨by dsimp only; omega, List.forall_mem_cons.2 ⟨by dsimp only; omega, List.forall_mem_nil _⟩⟩⟩⟩⟩⟩⟩⟩⟩⟩⟩⟩⟩) hk ho)
   ·skip
    go_simp
    have R51 := HR43.out.box 44 zz9
    have q51 : w43.heap.size + 1 ≤ (w43.alloc (.cells zz9 44)).heap.size ∧ (w43.alloc (.cells zz9 44)).heap.size ≤ w43.heap.size + 1 := by simp
    have HR51 := hd_ R51; clear R51 HR43
    refine hK.out _ _ ⟨(HR51.out.get 11 rfl), (HR51.out.get 10 rfl)⟩ (fun hHeld => ?_)
    clear hK K
    (try simp only [pz])
    generalize (w43.alloc (.cells zz9 44)) = w151 at *
    refine oNe 3 fun K hK => ?_
    go_simp
    refine (toBtree_o X1 vs1 0 w.heap.size _ (HR51.out.get 12 rfl) (HR51.out.le 12 rfl) HF1.out).mono ?_
    rintro e52 w52 ⟨us52, rfl, hx52, hb52⟩
    have R52 := (HR51.out.below hb52).add _ _ _ (loc_own shBtree _ _ us52 X1) (Nat.le_refl _) hx52; have q52 := hb52.size
    have HS_u1 := hd_ (size_of sizeIBtree hx52.reads); have HO_u1 := hd_ (shBtree.R_one hx52.reads)
    have HR52 := hd_ R52; clear R52 HR51 hx52 hb52
    go_simp
    refine hK.out _ _ ⟨(HR52.out.get 12 rfl), (HR52.out.get 11 rfl)⟩ (fun hHeld => ?_)
    clear hK K
    (try simp only [pz])
    refine oNe 5 fun K hK => ?_
    go_simp
    refine (HIM.out HF0.out HF1.out _ _ _ _ _ _ _ (HR52.out.get 2 rfl).reads (HR52.out.le 2 rfl) (HR52.out.get 0 rfl).reads (HR52.out.le 0 rfl) HR52.out.1).mono ?_
    rintro e53 w53 ⟨v0, rfl, hx53_0, hb53⟩
    have q53 := hb53.size
    have R53 := HR52.out.below hb53
    have R53 := R53.add _ _ _ (loc_own shCache _ _ v0 r0) (Nat.le_refl _) hx53_0
    have HS_v0 := hd_ (size_of sizeICache hx53_0.reads); have HO_v0 := hd_ (shCache.R_one hx53_0.reads)
    have HR53 := hd_ R53; clear R53 HR52 hb53 hx53_0
    go_simp
    refine hK.out _ _ ⟨(HR53.out.get 13 rfl), (HR53.out.get 12 rfl)⟩ (fun hHeld => ?_)
    clear hK K
    (try simp only [pz])
    (refine tA 6 98 ?_; simp only [pz])
    (refine tA 7 105 ?_; simp only [pz])
    (refine tA 8 106 ?_; simp only [pz])
    have HZ54 : Hid ((zz9 : Array Value).size = v0.toArray.size) := hd_ (Option.some.inj ((show (Tryz.prog.info? 44).map (·.size) = some _ from by kernel_rfl).symm.trans HS_v0.out))
    refine AnyT.storeAll (i := 10) (by kernel_rfl) rfl rfl 44 (.tmp 17) (.tmp 105) rfl (w43.heap.size) v0.toArray rfl rfl (HR53.out.get 2 rfl) HS_v0.out HZ54.out (fun u hu => HO_v0.out u (by simpa using hu)) (fun w154 hk ho hz => ⟨⟨(HR53.out.get 13 rfl).outOf ho (by omega), (HR53.out.get 12 rfl).outOf ho (by omega)⟩, fun hHeld => ?_⟩)
    (try simp only [pz])
    have R54 := HR53.out.only [2, 0, 4, 5, 6, 7, 8, 9, 10, 11, 12, 13, 14, 15]
    simp only [List.filterMap_cons, List.filterMap_nil, List.getElem?_cons_zero, List.getElem?_cons_succ] at R54
    (refine tA 11 18 ?_; simp only [pz])
    refine AnyT.done (by kernel_rfl) ?_ _
    exact Via.normal (w43.heap.size, _, _, us43, us52, v0) (by dsimp only) (R54.putAll (by omega) (List.forall_mem_cons.2 ⟨by dsimp only; omega, List.forall_mem_cons.2 ⟨by dsimp only; omega, List.forall_mem_cons.2 ⟨by dsimp only; omega, List.forall_mem_cons.2 ⟨by dsimp only; omega, List.forall_mem_cons.2 ⟨by dsimp only; omega, List.forall_mem_cons.2 ⟨by dsimp only; omega, List.forall_mem_cons.2 ⟨by dsimp only; omega, List.forall_mem_cons.2 ⟨by dsimp only; omega, List.forall_mem_cons.2 ⟨by dsimp only; omega, List.forall_mem_cons.2 ⟨by dsimp only; omega, List.forall_mem_cons.2 ⟨by dsimp only; omega, List.forall_mem_cons.2 ⟨by dsimp only; omega, List.forall_mem_cons.2 ⟨by dsimp only; omega, List.forall_mem_nil _⟩⟩⟩⟩⟩⟩⟩⟩⟩⟩⟩⟩⟩) hk ho)
  ·skip
   go_simp
   have R55 := HR42.out.box 44 zz9
   have q55 : w142.heap.size + 1 ≤ (w142.alloc (.cells zz9 44)).heap.size ∧ (w142.alloc (.cells zz9 44)).heap.size ≤ w142.heap.size + 1 := by simp
   have HR55 := hd_ R55; clear R55 HR42
   refine hK.out _ _ ⟨(HR55.out.get 10 rfl), (HR55.out.get 9 rfl)⟩ (fun hHeld => ?_)
   clear hK K
   (try simp only [pz])
   generalize (w142.alloc (.cells zz9 44)) = w155 at *
   refine oNe 1 fun K hK => ?_
   go_simp
   refine (toCache_o X0 vs0 0 w.heap.size _ (HR55.out.get 12 rfl) (HR55.out.le 12 rfl) HF0.out).mono ?_
   rintro e56 w56 ⟨us56, rfl, hx56, hb56⟩
   have R56 := (HR55.out.below hb56).add _ _ _ (loc_own shCache _ _ us56 X0) (Nat.le_refl _) hx56; have q56 := hb56.size
   have HS_u0 := hd_ (size_of sizeICache hx56.reads); have HO_u0 := hd_ (shCache.R_one hx56.reads)
   have HR56 := hd_ R56; clear R56 HR55 hx56 hb56
   go_simp
   refine hK.out _ _ ⟨(HR56.out.get 11 rfl), (HR56.out.get 10 rfl)⟩ (fun hHeld => ?_)
   clear hK K
   (try simp only [pz])
   refine oNe 3 fun K hK => ?_
   go_simp
   refine (toBtree_o X1 vs1 0 w.heap.size _ (HR56.out.get 12 rfl) (HR56.out.le 12 rfl) HF1.out).mono ?_
   rintro e57 w57 ⟨us57, rfl, hx57, hb57⟩
   have R57 := (HR56.out.below hb57).add _ _ _ (loc_own shBtree _ _ us57 X1) (Nat.le_refl _) hx57; have q57 := hb57.size
   have HS_u1 := hd_ (size_of sizeIBtree hx57.reads); have HO_u1 := hd_ (shBtree.R_one hx57.reads)
   have HR57 := hd_ R57; clear R57 HR56 hx57 hb57
   go_simp
   refine hK.out _ _ ⟨(HR57.out.get 12 rfl), (HR57.out.get 11 rfl)⟩ (fun hHeld => ?_)
   clear hK K
   (try simp only [pz])
   refine oNe 5 fun K hK => ?_
   go_simp
   refine (HIM.out HF0.out HF1.out _ _ _ _ _ _ _ (HR57.out.get 1 rfl).reads (HR57.out.le 1 rfl) (HR57.out.get 0 rfl).reads (HR57.out.le 0 rfl) HR57.out.1).mono ?_
   rintro e58 w58 ⟨v0, rfl, hx58_0, hb58⟩
   have q58 := hb58.size
   have R58 := HR57.out.below hb58
   have R58 := R58.add _ _ _ (loc_own shCache _ _ v0 r0) (Nat.le_refl _) hx58_0
   have HS_v0 := hd_ (size_of sizeICache hx58_0.reads); have HO_v0 := hd_ (shCache.R_one hx58_0.reads)
   have HR58 := hd_ R58; clear R58 HR57 hb58 hx58_0
   go_simp
   refine hK.out _ _ ⟨(HR58.out.get 13 rfl), (HR58.out.get 12 rfl)⟩ (fun hHeld => ?_)
   clear hK K
   (try simp only [pz])
   (refine tA 6 98 ?_; simp only [pz])
   (refine tA 7 105 ?_; simp only [pz])
   (refine tA 8 106 ?_; simp only [pz])
   have HZ59 : Hid ((zz9 : Array Value).size = v0.toArray.size) := hd_ (Option.some.inj ((show (Tryz.prog.info? 44).map (·.size) = some _ from by kernel_rfl).symm.trans HS_v0.out))
   refine AnyT.storeAll (i := 10) (by kernel_rfl) rfl rfl 44 (.tmp 17) (.tmp 105) rfl (w142.heap.size) v0.toArray rfl rfl (HR58.out.get 3 rfl) HS_v0.out HZ59.out (fun u hu => HO_v0.out u (by simpa using hu)) (fun w159 hk ho hz => ⟨⟨(HR58.out.get 13 rfl).outOf ho (by omega), (HR58.out.get 12 rfl).outOf ho (by omega)⟩, fun hHeld => ?_⟩)
   (try simp only [pz])
   have R59 := HR58.out.only [3, 0, 4, 5, 6, 7, 8, 9, 10, 11, 12, 13, 14, 15]
   simp only [List.filterMap_cons, List.filterMap_nil, List.getElem?_cons_zero, List.getElem?_cons_succ] at R59
   (refine tA 11 18 ?_; simp only [pz])
   refine AnyT.done (by kernel_rfl) ?_ _
   exact Via.normal (w142.heap.size, _, _, us56, us57, v0) (by dsimp only) (R59.putAll (by omega) (List.forall_mem_cons.2 ⟨by dsimp only; omega, List.forall_mem_cons.2 ⟨by dsimp only; omega, List.forall_mem_cons.2 ⟨by dsimp only; omega, List.forall_mem_cons.2 ⟨by dsimp only; omega, List.forall_mem_cons.2 ⟨by dsimp only; omega, List.forall_mem_cons.2 ⟨by dsimp only; omega, List.forall_mem_cons.2 ⟨by dsimp only; omega, List.forall_mem_cons.2 ⟨by dsimp only; omega, List.forall_mem_cons.2 ⟨by dsimp only; omega, List.forall_mem_cons.2 ⟨by dsimp only; omega, List.forall_mem_cons.2 ⟨by dsimp only; omega, List.forall_mem_cons.2 ⟨by dsimp only; omega, List.forall_mem_cons.2 ⟨by dsimp only; omega, List.forall_mem_nil _⟩⟩⟩⟩⟩⟩⟩⟩⟩⟩⟩⟩⟩) hk ho)
 skip
 rintro ⟨V60, L60, U60, y0_60, y1_60, v0⟩ w160 hR60
 have R60 := hR60; clear hR60 hst41
 simp only [List.cons_append, List.nil_append] at R60
 have HR60 := hd_ R60; clear R60 HR40
 have HS_v0 := hd_ (size_of sizeICache (HR60.out.get 1 rfl).reads); have HO_v0 := hd_ (shCache.R_one (HR60.out.get 1 rfl).reads)
 have q60 := (HR60.out.le 1 rfl); have q60v := (HR60.out.le 0 rfl)
 (try dsimp only at q60 q60v)
 have q60_0 := (HR60.out.le 2 rfl); (try dsimp only at q60_0)
 have q60_1 := (HR60.out.le 3 rfl); (try dsimp only at q60_1)
 have q60_2 := (HR60.out.le 4 rfl); (try dsimp only at q60_2)
 have q60_3 := (HR60.out.le 5 rfl); (try dsimp only at q60_3)
 have q60_4 := (HR60.out.le 6 rfl); (try dsimp only at q60_4)
 have q60_5 := (HR60.out.le 7 rfl); (try dsimp only at q60_5)
 have q60_6 := (HR60.out.le 8 rfl); (try dsimp only at q60_6)
 have q60_7 := (HR60.out.le 9 rfl); (try dsimp only at q60_7)
 have q60_8 := (HR60.out.le 10 rfl); (try dsimp only at q60_8)
 have q60_9 := (HR60.out.le 11 rfl); (try dsimp only at q60_9)
 have q60_10 := (HR60.out.le 12 rfl); (try dsimp only at q60_10)
 have q60_11 := (HR60.out.le 13 rfl); (try dsimp only at q60_11)
 (try simp only [pz])
 go_wp2_with (first | fail | (refine wpList_loadAll rfl 31 (.tmp 3) rfl (w.heap.size) rfl (HR60.out.get 11 rfl) Tryz.underlying31 rfl HS_p0.out ?_; simp only [pz]) | (refine wpList_loadAll rfl 34 (.tmp 4) rfl (w.heap.size + 1) rfl (HR60.out.get 10 rfl) Tryz.underlying34 rfl HS_p1.out ?_; simp only [pz]) | (refine wpList_loadAll rfl 44 (.tmp 8) rfl (V22) rfl (HR60.out.get 8 rfl) Tryz.underlying44 rfl HS_w0.out ?_; simp only [pz]) | (refine wpList_loadAll rfl 44 (.tmp 10) rfl (w23.heap.size) rfl (HR60.out.get 7 rfl) Tryz.underlying44 rfl HS_x0.out ?_; simp only [pz]) | (refine wpList_loadAll rfl 50 (.tmp 11) rfl (w25.heap.size) rfl (HR60.out.get 6 rfl) Tryz.underlying50 rfl HS_x1.out ?_; simp only [pz]) | (refine wpList_loadAll rfl 44 (.tmp 12) rfl (w27.heap.size) rfl (HR60.out.get 5 rfl) Tryz.underlying44 rfl HS_g0.out ?_; simp only [pz]) | (refine wpList_loadAll rfl 44 (.tmp 17) rfl (V60) rfl (HR60.out.get 0 rfl) Tryz.underlying44 rfl HS_v0.out ?_; simp only [pz]))
 refine (eqCache_o r0 v0 w0 _ _ _ _ _ (HR60.out.get 1 rfl).reads (HR60.out.get 9 rfl) (HR60.out.le 1 rfl) (HR60.out.le 9 rfl) HRL0.out).mono ?_
 rintro e161 w161 ⟨rfl, hb61⟩; have q61 := hb61.size
 have R61 := HR60.out.below hb61
 have HR61 := hd_ R61; clear R61 HR60 hb61
 go_wp2_with (first | fail | (refine wpList_loadAll rfl 31 (.tmp 3) rfl (w.heap.size) rfl (HR61.out.get 11 rfl) Tryz.underlying31 rfl HS_p0.out ?_; simp only [pz]) | (refine wpList_loadAll rfl 34 (.tmp 4) rfl (w.heap.size + 1) rfl (HR61.out.get 10 rfl) Tryz.underlying34 rfl HS_p1.out ?_; simp only [pz]) | (refine wpList_loadAll rfl 44 (.tmp 8) rfl (V22) rfl (HR61.out.get 8 rfl) Tryz.underlying44 rfl HS_w0.out ?_; simp only [pz]) | (refine wpList_loadAll rfl 44 (.tmp 10) rfl (w23.heap.size) rfl (HR61.out.get 7 rfl) Tryz.underlying44 rfl HS_x0.out ?_; simp only [pz]) | (refine wpList_loadAll rfl 50 (.tmp 11) rfl (w25.heap.size) rfl (HR61.out.get 6 rfl) Tryz.underlying50 rfl HS_x1.out ?_; simp only [pz]) | (refine wpList_loadAll rfl 44 (.tmp 12) rfl (w27.heap.size) rfl (HR61.out.get 5 rfl) Tryz.underlying44 rfl HS_g0.out ?_; simp only [pz]) | (refine wpList_loadAll rfl 44 (.tmp 17) rfl (V60) rfl (HR61.out.get 0 rfl) Tryz.underlying44 rfl HS_v0.out ?_; simp only [pz]))
 refine (heldCache_o r0 g0 (1) _ _ _ _ (HR61.out.get 2 rfl) (HR61.out.le 2 rfl) HRL0.out rfl (by omega) (by have := HRK0.out; omega)).mono ?_
 rintro e162 w162 ⟨m62, rfl, hm62, hb62⟩; have q62 := hb62.size
 have R62 := HR61.out.below hb62
 have HR62 := hd_ R62; clear R62 HR61 hb62
 have nk62 : decide (m62 < 0) = false := decide_eq_false (by omega)
 have HM62 := hd_ hm62; clear hm62
 have nq62 : (m62 != m39) = false := by rw [HM62.out, HM39.out]; simp
 go_wp2_with (first | fail | (refine wpList_loadAll rfl 31 (.tmp 3) rfl (w.heap.size) rfl (HR62.out.get 11 rfl) Tryz.underlying31 rfl HS_p0.out ?_; simp only [pz]) | (refine wpList_loadAll rfl 34 (.tmp 4) rfl (w.heap.size + 1) rfl (HR62.out.get 10 rfl) Tryz.underlying34 rfl HS_p1.out ?_; simp only [pz]) | (refine wpList_loadAll rfl 44 (.tmp 8) rfl (V22) rfl (HR62.out.get 8 rfl) Tryz.underlying44 rfl HS_w0.out ?_; simp only [pz]) | (refine wpList_loadAll rfl 44 (.tmp 10) rfl (w23.heap.size) rfl (HR62.out.get 7 rfl) Tryz.underlying44 rfl HS_x0.out ?_; simp only [pz]) | (refine wpList_loadAll rfl 50 (.tmp 11) rfl (w25.heap.size) rfl (HR62.out.get 6 rfl) Tryz.underlying50 rfl HS_x1.out ?_; simp only [pz]) | (refine wpList_loadAll rfl 44 (.tmp 12) rfl (w27.heap.size) rfl (HR62.out.get 5 rfl) Tryz.underlying44 rfl HS_g0.out ?_; simp only [pz]) | (refine wpList_loadAll rfl 44 (.tmp 17) rfl (V60) rfl (HR62.out.get 0 rfl) Tryz.underlying44 rfl HS_v0.out ?_; simp only [pz]))
 go_ret
 exact ⟨rfl, HR62.out.1⟩
end Go.Proofs.YtnnabkldceklmaaGreatDoor
