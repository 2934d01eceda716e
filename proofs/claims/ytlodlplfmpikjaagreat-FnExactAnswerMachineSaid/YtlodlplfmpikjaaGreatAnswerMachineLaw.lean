/- FnExactAnswerMachine returns true: the walk of the law (printed by wip/gen_lawo.py). -/
import Derived.Test.YtlodlplfmpikjaaGreatAnsB
import Derived.Test.YtlodlplfmpikjaaGreatOpqM
namespace Go.Proofs.YtlodlplfmpikjaaGreat
open Go.RowKit

set_option maxHeartbeats 4000000 in
theorem ansP_cost (X : TyMachine) (ok : Bool) (text : ByteArray) (hc : shMachine.cost X ≤ 1048576) (ht : text.size ≤ 1048576) : shMachine.cost (ansP X ok text).1 ≤ 4194304 := by
  obtain ⟨x0, x1, x2, x3, x4, x5, x6, ⟨x7, x8, x9, x10⟩, x11, x12, ⟨x13, x14, x15⟩, x16, x17, x18, x19, x20⟩ := X
  unfold ansP
  rw [shMachine_cost] at hc
  have h0 : shMachine.cost shMachine.d ≤ 4194304 := by decide
  split
  · exact h0
  · split
    · show shMachine.cost (1, x1, x2, x3, x4, x5, x6, (x7, x8, x9, x10), _, x12, (x13, x14, x15), x16, x17, _, 0, _) ≤ _
      rw [shMachine_cost]
      have : (if x19 = 3 then text else x20).size ≤ x20.size + text.size := by split <;> omega
      omega
    · exact h0

set_option maxHeartbeats 16000000 in
set_option maxRecDepth 100000 in
theorem law_AnswerMachine (X0 : TyMachine) (s1 : Bool) (s2 : ByteArray) (vs0 : List Value) (w : World) (hx0 : shMachine.R w 0 w.heap.size vs0 X0) (hr0 : shMachine.fit 9223372036854775807 X0) (hl2 : s2.size ≤ 9223372036854775807) :
    Calls Tryz.prog 3 #[.agg vs0.toArray, .bool s1, .string s2] w fun e w' => e = .returned (.bool true) ∧ Below w.heap.size w w' := by
  have hsp := fun (hf : shMachine.fit 1048576 X0) (ht2 : s2.size ≤ 1048576) vs lo hi (W : World) h hh => specAnswerMachine_f X0 s1 s2 vs lo hi W h hh hf
  have him := fun (hf : shMachine.fit 1048576 X0) (ht2 : s2.size ≤ 1048576) vs lo hi (W : World) h hh => implAnswerMachine_f X0 s1 s2 vs lo hi W h hh hf
  have hcost := fun (hc : shMachine.cost X0 ≤ 1048576) (ht2 : s2.size ≤ 1048576) => ansP_cost X0 s1 s2 hc ht2
  generalize ansP X0 s1 s2 = T at hsp him hcost
  obtain ⟨r0, z1⟩ := T
  dsimp only at hsp him hcost
  have HSP := Lib.hid hsp; have HIM := Lib.hid him; have HCOST := Lib.hid hcost; clear hsp him hcost
  have HX0 := Lib.hid hx0; have HQ0 := Lib.hid hr0; have HS_p0 := Lib.hid (size_of sizeLMachine hx0); clear hx0 hr0
  by_cases hlt2 : 1048576 < s2.size
  · have hD := Below.refl w.heap.size w
    have hD := hD.alloc (by simp <;> omega) (.cells vs0.toArray 35)
    have HD := Lib.hid hD; clear hD
    go_enter Tryz.func3, Tryz.ntmps3
    go_wp2_with fail
    go_ret
    exact ⟨rfl, HD.out⟩
  have ht2 : s2.size ≤ 1048576 := by omega
  clear hlt2 hl2
  have HR0 := Lib.hid (((Stand.nil w).add 0 w.heap.size _ (loc_sh shMachine 0 w.heap.size vs0 X0) (Nat.le_refl _) HX0.out).box 35 vs0.toArray)
  go_enter Tryz.func3, Tryz.ntmps3
  go_upto_region 1 with fail
  generalize (w.alloc (.cells vs0.toArray 35)) = u0 at *
  have su : w.heap.size ≤ u0.heap.size := HR0.out.1.size
  have sp0 := (HR0.out.le 0 rfl)
  go_wp2_with (first | fail | (refine wpList_loadAll rfl 35 (.tmp 3) rfl (w.heap.size) rfl (HR0.out.get 0 rfl) Tryz.underlying35 rfl HS_p0.out ?_; simp only [Go.Act.put, List.setIfInBounds_toArray, List.set_cons_zero, List.set_cons_succ]))
  refine (szMachine_o X0 vs0 0 w.heap.size _ _ (HR0.out.get 1 rfl) (HR0.out.le 1 rfl) HQ0.out (by omega) (by omega)).mono ?_
  rintro e1 w1 ⟨m1, rfl, hm1, hb1⟩
  have R1 := HR0.out.below hb1; have q1 := hb1.size
  have HR1 := Lib.hid R1; clear R1 HR0 hb1
  rcases hm1 with rfl | ⟨hm0_1, hm1_1⟩
  · go_wp2_with fail
    go_ret
    exact ⟨rfl, HR1.out.1⟩
  have nm1 : decide (m1 < 0) = false := decide_eq_false (by omega)
  have hc100 : shMachine.cost X0 ≤ 1048576 := by omega
  have HF0 := Lib.hid (shMachine.fit_of hc100); have HL0 := Lib.hid (shMachine.fit_of (m := 4294967296) (by omega : shMachine.cost X0 ≤ 4294967296)); have HK0 := Lib.hid (fewMachine _ (by omega : shMachine.cost X0 ≤ 4194304))
  have hct := HCOST.out hc100 ht2
  have HRL0 := Lib.hid (shMachine.fit_of (m := 4294967296) (by have := hct; omega : shMachine.cost r0 ≤ 4294967296)); have HRK0 := Lib.hid (fewMachine _ (by have := hct; omega : shMachine.cost r0 ≤ 4194304))
  clear hct
  clear hc100 hm1_1
  have nz1 : (z1 != z1) = false := by simp
  go_wp2_with (first | fail | (refine wpList_loadAll rfl 35 (.tmp 3) rfl (w.heap.size) rfl (HR1.out.get 0 rfl) Tryz.underlying35 rfl HS_p0.out ?_; simp only [Go.Act.put, List.setIfInBounds_toArray, List.set_cons_zero, List.set_cons_succ]))
  refine (toMachine_o X0 vs0 0 w.heap.size _ (HR1.out.get 1 rfl) (HR1.out.le 1 rfl) HF0.out).mono ?_
  rintro e2 w2 ⟨us2, rfl, hx2, hb2⟩
  have R2 := (HR1.out.below hb2).add _ _ _ (loc_own shMachine _ _ us2 X0) (Nat.le_refl _) hx2; have q2 := hb2.size
  have HS_t0 := Lib.hid (size_of sizeIMachine hx2.reads); have HO_t0 := Lib.hid (shMachine.R_one hx2.reads)
  have HR2 := Lib.hid R2; clear R2 HR1 hx2 hb2
  go_wp2_with (first | fail | (refine wpList_loadAll rfl 35 (.tmp 3) rfl (w.heap.size) rfl (HR2.out.get 1 rfl) Tryz.underlying35 rfl HS_p0.out ?_; simp only [Go.Act.put, List.setIfInBounds_toArray, List.set_cons_zero, List.set_cons_succ]))
  refine (HSP.out HF0.out ht2 _ _ _ _ (HR2.out.get 0 rfl).reads (HR2.out.le 0 rfl)).mono ?_
  rintro e3 w3 ⟨w0, rfl, hx3_0, hb3⟩
  have q3 := hb3.size
  have R3 := HR2.out.below hb3
  have R3 := R3.add _ _ _ (loc_sh shMachine _ _ w0 r0) (Nat.le_refl _) hx3_0
  have HS_w0 := Lib.hid (size_of sizeIMachine hx3_0); have HO_w0 := Lib.hid (shMachine.R_one hx3_0)
  have HR3 := Lib.hid R3; clear R3 HR2 hb3 hx3_0
  have HZ4 := Lib.hid (Blk.new w3 48 #[.int .i64 0, .int .i64 0, .slice none 0 0, .slice none 0 0, .slice none 0 0, .slice none 0 0, .slice none 0 0, .int .i64 0, .slice none 0 0, .slice none 0 0, .slice none 0 0, .bool false, .bool false, .bool false, .string ⟨#[]⟩, .slice none 0 0, .int .i64 0, .int .i64 0, .int .i64 0, .int .i64 0, .string ⟨#[]⟩])
  have HZS4 : Hid ((#[.int .i64 0, .int .i64 0, .slice none 0 0, .slice none 0 0, .slice none 0 0, .slice none 0 0, .slice none 0 0, .int .i64 0, .slice none 0 0, .slice none 0 0, .slice none 0 0, .bool false, .bool false, .bool false, .string ⟨#[]⟩, .slice none 0 0, .int .i64 0, .int .i64 0, .int .i64 0, .int .i64 0, .string ⟨#[]⟩] : Array Value).size = w0.toArray.size) := Lib.hid (Option.some.inj ((show (Tryz.prog.info? 48).map (·.size) = some _ from by kernel_rfl).symm.trans HS_w0.out))
  go_upto_region 8 with (first | fail | (refine wpList_loadAll rfl 35 (.tmp 3) rfl (w.heap.size) rfl (HR3.out.get 2 rfl) Tryz.underlying35 rfl HS_p0.out ?_; simp only [Go.Act.put, List.setIfInBounds_toArray, List.set_cons_zero, List.set_cons_succ]) | (refine wpList_storeAll rfl 48 (.tmp 8) (.tmp 32) rfl w3.heap.size w0.toArray rfl rfl HZ4.out HS_w0.out HZS4.out (fun u hu => HO_w0.out u (by simpa using hu)) ?_; intro w4 hk4 ho4 hz4))
  (try simp only [Go.Act.put, List.setIfInBounds_toArray, List.set_cons_zero, List.set_cons_succ])
  have q4 : w3.heap.size + 1 ≤ w4.heap.size ∧ w4.heap.size ≤ w3.heap.size + 1 := by rw [hz4]; simp
  have R4 := HR3.out.store hk4 ho4
  have HR4 := Lib.hid R4; clear R4 HR3 HZ4 HZS4 hk4 ho4 hz4
  go_wp2_with (first | fail | (refine wpList_loadAll rfl 35 (.tmp 3) rfl (w.heap.size) rfl (HR4.out.get 3 rfl) Tryz.underlying35 rfl HS_p0.out ?_; simp only [Go.Act.put, List.setIfInBounds_toArray, List.set_cons_zero, List.set_cons_succ]) | (refine wpList_loadAll rfl 48 (.tmp 8) rfl (w3.heap.size) rfl (HR4.out.get 0 rfl) Tryz.underlying48 rfl HS_w0.out ?_; simp only [Go.Act.put, List.setIfInBounds_toArray, List.set_cons_zero, List.set_cons_succ]))
  refine (toMachine_o X0 vs0 0 w.heap.size _ (HR4.out.get 4 rfl) (HR4.out.le 4 rfl) HF0.out).mono ?_
  rintro e5 w5 ⟨us5, rfl, hx5, hb5⟩
  have R5 := (HR4.out.below hb5).add _ _ _ (loc_own shMachine _ _ us5 X0) (Nat.le_refl _) hx5; have q5 := hb5.size
  have HS_x0 := Lib.hid (size_of sizeIMachine hx5.reads); have HO_x0 := Lib.hid (shMachine.R_one hx5.reads)
  have HR5 := Lib.hid R5; clear R5 HR4 hx5 hb5
  have HZ6 := Lib.hid (Blk.new w5 48 #[.int .i64 0, .int .i64 0, .slice none 0 0, .slice none 0 0, .slice none 0 0, .slice none 0 0, .slice none 0 0, .int .i64 0, .slice none 0 0, .slice none 0 0, .slice none 0 0, .bool false, .bool false, .bool false, .string ⟨#[]⟩, .slice none 0 0, .int .i64 0, .int .i64 0, .int .i64 0, .int .i64 0, .string ⟨#[]⟩])
  have HZS6 : Hid ((#[.int .i64 0, .int .i64 0, .slice none 0 0, .slice none 0 0, .slice none 0 0, .slice none 0 0, .slice none 0 0, .int .i64 0, .slice none 0 0, .slice none 0 0, .slice none 0 0, .bool false, .bool false, .bool false, .string ⟨#[]⟩, .slice none 0 0, .int .i64 0, .int .i64 0, .int .i64 0, .int .i64 0, .string ⟨#[]⟩] : Array Value).size = us5.toArray.size) := Lib.hid (Option.some.inj ((show (Tryz.prog.info? 48).map (·.size) = some _ from by kernel_rfl).symm.trans HS_x0.out))
  go_upto_region 9 with (first | fail | (refine wpList_loadAll rfl 35 (.tmp 3) rfl (w.heap.size) rfl (HR5.out.get 4 rfl) Tryz.underlying35 rfl HS_p0.out ?_; simp only [Go.Act.put, List.setIfInBounds_toArray, List.set_cons_zero, List.set_cons_succ]) | (refine wpList_loadAll rfl 48 (.tmp 8) rfl (w3.heap.size) rfl (HR5.out.get 1 rfl) Tryz.underlying48 rfl HS_w0.out ?_; simp only [Go.Act.put, List.setIfInBounds_toArray, List.set_cons_zero, List.set_cons_succ]) | (refine wpList_storeAll rfl 48 (.tmp 10) (.tmp 35) rfl w5.heap.size us5.toArray rfl rfl HZ6.out HS_x0.out HZS6.out (fun u hu => HO_x0.out u (by simpa using hu)) ?_; intro w6 hk6 ho6 hz6))
  (try simp only [Go.Act.put, List.setIfInBounds_toArray, List.set_cons_zero, List.set_cons_succ])
  have q6 : w5.heap.size + 1 ≤ w6.heap.size ∧ w6.heap.size ≤ w5.heap.size + 1 := by rw [hz6]; simp
  have R6 := HR5.out.store hk6 ho6
  have HR6 := Lib.hid R6; clear R6 HR5 HZ6 HZS6 hk6 ho6 hz6
  go_wp2_with (first | fail | (refine wpList_loadAll rfl 35 (.tmp 3) rfl (w.heap.size) rfl (HR6.out.get 5 rfl) Tryz.underlying35 rfl HS_p0.out ?_; simp only [Go.Act.put, List.setIfInBounds_toArray, List.set_cons_zero, List.set_cons_succ]) | (refine wpList_loadAll rfl 48 (.tmp 8) rfl (w3.heap.size) rfl (HR6.out.get 2 rfl) Tryz.underlying48 rfl HS_w0.out ?_; simp only [Go.Act.put, List.setIfInBounds_toArray, List.set_cons_zero, List.set_cons_succ]) | (refine wpList_loadAll rfl 48 (.tmp 10) rfl (w5.heap.size) rfl (HR6.out.get 0 rfl) Tryz.underlying48 rfl HS_x0.out ?_; simp only [Go.Act.put, List.setIfInBounds_toArray, List.set_cons_zero, List.set_cons_succ]))
  refine (HIM.out HF0.out ht2 _ _ _ _ (HR6.out.get 1 rfl).reads (HR6.out.le 1 rfl)).mono ?_
  rintro e7 w7 ⟨g0, rfl, hx7_0, hb7⟩
  have q7 := hb7.size
  have R7 := HR6.out.below hb7
  have R7 := R7.add _ _ _ (loc_own shMachine _ _ g0 r0) (Nat.le_refl _) hx7_0
  have HS_g0 := Lib.hid (size_of sizeIMachine hx7_0.reads); have HO_g0 := Lib.hid (shMachine.R_one hx7_0.reads)
  have HR7 := Lib.hid R7; clear R7 HR6 hb7 hx7_0
  have HZ8 := Lib.hid (Blk.new w7 48 #[.int .i64 0, .int .i64 0, .slice none 0 0, .slice none 0 0, .slice none 0 0, .slice none 0 0, .slice none 0 0, .int .i64 0, .slice none 0 0, .slice none 0 0, .slice none 0 0, .bool false, .bool false, .bool false, .string ⟨#[]⟩, .slice none 0 0, .int .i64 0, .int .i64 0, .int .i64 0, .int .i64 0, .string ⟨#[]⟩])
  have HZS8 : Hid ((#[.int .i64 0, .int .i64 0, .slice none 0 0, .slice none 0 0, .slice none 0 0, .slice none 0 0, .slice none 0 0, .int .i64 0, .slice none 0 0, .slice none 0 0, .slice none 0 0, .bool false, .bool false, .bool false, .string ⟨#[]⟩, .slice none 0 0, .int .i64 0, .int .i64 0, .int .i64 0, .int .i64 0, .string ⟨#[]⟩] : Array Value).size = g0.toArray.size) := Lib.hid (Option.some.inj ((show (Tryz.prog.info? 48).map (·.size) = some _ from by kernel_rfl).symm.trans HS_g0.out))
  go_upto_region 10 with (first | fail | (refine wpList_loadAll rfl 35 (.tmp 3) rfl (w.heap.size) rfl (HR7.out.get 6 rfl) Tryz.underlying35 rfl HS_p0.out ?_; simp only [Go.Act.put, List.setIfInBounds_toArray, List.set_cons_zero, List.set_cons_succ]) | (refine wpList_loadAll rfl 48 (.tmp 8) rfl (w3.heap.size) rfl (HR7.out.get 3 rfl) Tryz.underlying48 rfl HS_w0.out ?_; simp only [Go.Act.put, List.setIfInBounds_toArray, List.set_cons_zero, List.set_cons_succ]) | (refine wpList_loadAll rfl 48 (.tmp 10) rfl (w5.heap.size) rfl (HR7.out.get 1 rfl) Tryz.underlying48 rfl HS_x0.out ?_; simp only [Go.Act.put, List.setIfInBounds_toArray, List.set_cons_zero, List.set_cons_succ]) | (refine wpList_storeAll rfl 48 (.tmp 11) (.tmp 41) rfl w7.heap.size g0.toArray rfl rfl HZ8.out HS_g0.out HZS8.out (fun u hu => HO_g0.out u (by simpa using hu)) ?_; intro w8 hk8 ho8 hz8))
  (try simp only [Go.Act.put, List.setIfInBounds_toArray, List.set_cons_zero, List.set_cons_succ])
  have q8 : w7.heap.size + 1 ≤ w8.heap.size ∧ w8.heap.size ≤ w7.heap.size + 1 := by rw [hz8]; simp
  have R8 := HR7.out.store hk8 ho8
  have HR8 := Lib.hid R8; clear R8 HR7 HZ8 HZS8 hk8 ho8 hz8
  go_wp2_with (first | fail | (refine wpList_loadAll rfl 35 (.tmp 3) rfl (w.heap.size) rfl (HR8.out.get 7 rfl) Tryz.underlying35 rfl HS_p0.out ?_; simp only [Go.Act.put, List.setIfInBounds_toArray, List.set_cons_zero, List.set_cons_succ]) | (refine wpList_loadAll rfl 48 (.tmp 8) rfl (w3.heap.size) rfl (HR8.out.get 4 rfl) Tryz.underlying48 rfl HS_w0.out ?_; simp only [Go.Act.put, List.setIfInBounds_toArray, List.set_cons_zero, List.set_cons_succ]) | (refine wpList_loadAll rfl 48 (.tmp 10) rfl (w5.heap.size) rfl (HR8.out.get 2 rfl) Tryz.underlying48 rfl HS_x0.out ?_; simp only [Go.Act.put, List.setIfInBounds_toArray, List.set_cons_zero, List.set_cons_succ]) | (refine wpList_loadAll rfl 48 (.tmp 11) rfl (w7.heap.size) rfl (HR8.out.get 0 rfl) Tryz.underlying48 rfl HS_g0.out ?_; simp only [Go.Act.put, List.setIfInBounds_toArray, List.set_cons_zero, List.set_cons_succ]))
  refine (eqMachine_o r0 g0 w0 _ _ _ _ _ (HR8.out.get 1 rfl).reads (HR8.out.get 5 rfl) (HR8.out.le 1 rfl) (HR8.out.le 5 rfl) HRL0.out).mono ?_
  rintro e109 w109 ⟨rfl, hb9⟩; have q9 := hb9.size
  have R9 := HR8.out.below hb9
  have HR9 := Lib.hid R9; clear R9 HR8 hb9
  go_upto_region 12 with (first | fail | (refine wpList_loadAll rfl 35 (.tmp 3) rfl (w.heap.size) rfl (HR9.out.get 7 rfl) Tryz.underlying35 rfl HS_p0.out ?_; simp only [Go.Act.put, List.setIfInBounds_toArray, List.set_cons_zero, List.set_cons_succ]) | (refine wpList_loadAll rfl 48 (.tmp 8) rfl (w3.heap.size) rfl (HR9.out.get 4 rfl) Tryz.underlying48 rfl HS_w0.out ?_; simp only [Go.Act.put, List.setIfInBounds_toArray, List.set_cons_zero, List.set_cons_succ]) | (refine wpList_loadAll rfl 48 (.tmp 10) rfl (w5.heap.size) rfl (HR9.out.get 2 rfl) Tryz.underlying48 rfl HS_x0.out ?_; simp only [Go.Act.put, List.setIfInBounds_toArray, List.set_cons_zero, List.set_cons_succ]) | (refine wpList_loadAll rfl 48 (.tmp 11) rfl (w7.heap.size) rfl (HR9.out.get 0 rfl) Tryz.underlying48 rfl HS_g0.out ?_; simp only [Go.Act.put, List.setIfInBounds_toArray, List.set_cons_zero, List.set_cons_succ]))
  refine AnyT.region (fun _ => false) (fun W => Blk W (w5.heap.size) 48 us5.toArray ∧ Blk W (w.heap.size) 35 vs0.toArray) (by kernel_rfl) ⟨(HR9.out.get 2 rfl).drewN 1, (HR9.out.get 7 rfl).drewN 1⟩ (fun hHeld => ?_)
  have R10 := HR9.out.drew; have q10 : w109.heap.size ≤ w109.drew.heap.size := Nat.le_refl _
  have HR10 := Lib.hid R10; clear R10 HR9
  generalize w109.drew = w110 at *
  refine AnyT.take 0 52 (.agg us5.toArray) rfl (by kernel_rfl) (by kernel_rfl) (by kernel_rfl) (by kernel_rfl) rfl (by kernel_rfl) rfl (fun _ _ _ _ h => h) rfl (fun W hW => exec_loadAll 48 (.tmp 10) rfl (w5.heap.size) rfl hW.1 Tryz.underlying48 rfl HS_x0.out) (by assumption) ?_
  simp only [Go.Act.put, List.setIfInBounds_toArray, List.set_cons_zero, List.set_cons_succ]
  refine AnyT.take 1 53 (.agg vs0.toArray) rfl (by kernel_rfl) (by kernel_rfl) (by kernel_rfl) (by kernel_rfl) rfl (by kernel_rfl) rfl (fun _ _ _ _ h => h) rfl (fun W hW => exec_loadAll 35 (.tmp 3) rfl (w.heap.size) rfl hW.2 Tryz.underlying35 rfl HS_p0.out) (by assumption) ?_
  simp only [Go.Act.put, List.setIfInBounds_toArray, List.set_cons_zero, List.set_cons_succ]
  ((refine AnyT.one (i := 2) (by kernel_rfl) rfl (fun K hK => ?_)))
  go_simp
  refine (toMachine_o X0 vs0 0 w.heap.size _ (HR10.out.get 8 rfl) (HR10.out.le 8 rfl) HF0.out).mono ?_
  rintro e11 w11 ⟨us11, rfl, hx11, hb11⟩
  have R11 := (HR10.out.below hb11).add _ _ _ (loc_own shMachine _ _ us11 X0) (Nat.le_refl _) hx11; have q11 := hb11.size
  have HS_y0 := Lib.hid (size_of sizeIMachine hx11.reads); have HO_y0 := Lib.hid (shMachine.R_one hx11.reads)
  have HR11 := Lib.hid R11; clear R11 HR10 hx11 hb11
  go_simp
  refine hK.out _ _ ⟨(HR11.out.get 3 rfl), (HR11.out.get 8 rfl)⟩ (fun hHeld => ?_)
  clear hK K
  (try simp only [Go.Act.put, List.setIfInBounds_toArray, List.set_cons_zero, List.set_cons_succ])
  ((refine AnyT.one (i := 3) (by kernel_rfl) rfl (fun K hK => ?_)))
  go_simp
  refine (eqMachine_o X0 us5 us11 _ _ _ _ _ (HR11.out.get 4 rfl).reads (HR11.out.get 0 rfl).reads (HR11.out.le 4 rfl) (HR11.out.le 0 rfl) HL0.out).mono ?_
  rintro e112 w112 ⟨rfl, hb12⟩; have q12 := hb12.size
  go_simp
  have R12 := HR11.out.below hb12
  have HR12 := Lib.hid R12; clear R12 HR11 hb12
  refine hK.out _ _ ⟨(HR12.out.get 3 rfl), (HR12.out.get 8 rfl)⟩ (fun hHeld => ?_)
  clear hK K
  (try simp only [Go.Act.put, List.setIfInBounds_toArray, List.set_cons_zero, List.set_cons_succ])
  ((refine AnyT.takeAny 4 56 ?_ rfl (by kernel_rfl) (by kernel_rfl) (by kernel_rfl) rfl rfl (fun _ _ _ _ h => h) rfl ?_ (by assumption) ?_); rotate_left; (intro w; go_simp; (try (with_reducible rfl))); simp only [Act.put, List.setIfInBounds_toArray, List.set_cons_zero, List.set_cons_succ])
  refine AnyT.done (by kernel_rfl) ?_ _
  clear hHeld
  go_wp2_with (first | fail | (refine wpList_loadAll rfl 35 (.tmp 3) rfl (w.heap.size) rfl (HR12.out.get 8 rfl) Tryz.underlying35 rfl HS_p0.out ?_; simp only [Go.Act.put, List.setIfInBounds_toArray, List.set_cons_zero, List.set_cons_succ]) | (refine wpList_loadAll rfl 48 (.tmp 8) rfl (w3.heap.size) rfl (HR12.out.get 5 rfl) Tryz.underlying48 rfl HS_w0.out ?_; simp only [Go.Act.put, List.setIfInBounds_toArray, List.set_cons_zero, List.set_cons_succ]) | (refine wpList_loadAll rfl 48 (.tmp 10) rfl (w5.heap.size) rfl (HR12.out.get 3 rfl) Tryz.underlying48 rfl HS_x0.out ?_; simp only [Go.Act.put, List.setIfInBounds_toArray, List.set_cons_zero, List.set_cons_succ]) | (refine wpList_loadAll rfl 48 (.tmp 11) rfl (w7.heap.size) rfl (HR12.out.get 1 rfl) Tryz.underlying48 rfl HS_g0.out ?_; simp only [Go.Act.put, List.setIfInBounds_toArray, List.set_cons_zero, List.set_cons_succ]))
  obtain ⟨FO13, hO13, hN13, hr13⟩ := (HR12.out.get 4 rfl)
  have le13 := (HR12.out.le 4 rfl)
  refine (markMachine_o X0 us5 (1) _ FO13 _ hO13 hN13 rfl (by omega) (by have := HK0.out; omega)).mono ?_
  rintro e113 w113 ⟨m13, rfl, hm13, hp13, ho13⟩
  have q13 := ho13.size
  have R13 := ((HR12.out.only [0, 1, 2, 3, 5, 6, 7, 8, 9]).within (Within.of_out ho13 hr13) (by omega) (by
    intro f hf
    simp only [List.filterMap_cons, List.filterMap_nil, List.getElem?_cons_zero, List.getElem?_cons_succ, List.mem_cons, List.not_mem_nil, or_false] at hf
    rcases hf with rfl | rfl | rfl | rfl | rfl | rfl | rfl | rfl | rfl
    all_goals (simp only; omega)))
  have HR13 := Lib.hid R13; clear R13 HR12 hO13 hN13 hp13 ho13
  have nk13 : decide (m13 < 0) = false := decide_eq_false (by omega)
  have HM13 := Lib.hid hm13; clear hm13
  go_wp2_with (first | fail | (refine wpList_loadW 48 (.tmp 8) rfl rfl (w3.heap.size) rfl (HR13.out.get 4 rfl) Tryz.underlying48 rfl HS_w0.out ?_; simp only [Go.Act.put, List.setIfInBounds_toArray, List.set_cons_zero, List.set_cons_succ]) | (refine wpList_loadW 48 (.tmp 11) rfl rfl (w7.heap.size) rfl (HR13.out.get 1 rfl) Tryz.underlying48 rfl HS_g0.out ?_; simp only [Go.Act.put, List.setIfInBounds_toArray, List.set_cons_zero, List.set_cons_succ]))
  refine (eqMachine_o r0 g0 w0 _ _ _ _ _ (HR13.out.get 2 rfl).reads (HR13.out.get 5 rfl) (HR13.out.le 2 rfl) (HR13.out.le 5 rfl) HRL0.out).mono ?_
  rintro e114 w114 ⟨rfl, hb14⟩; have q14 := hb14.size
  have R14 := HR13.out.below hb14
  have HR14 := Lib.hid R14; clear R14 HR13 hb14
  go_wp2_with (first | fail | (refine wpList_loadAll rfl 35 (.tmp 3) rfl (w.heap.size) rfl (HR14.out.get 7 rfl) Tryz.underlying35 rfl HS_p0.out ?_; simp only [Go.Act.put, List.setIfInBounds_toArray, List.set_cons_zero, List.set_cons_succ]) | (refine wpList_loadAll rfl 48 (.tmp 8) rfl (w3.heap.size) rfl (HR14.out.get 4 rfl) Tryz.underlying48 rfl HS_w0.out ?_; simp only [Go.Act.put, List.setIfInBounds_toArray, List.set_cons_zero, List.set_cons_succ]) | (refine wpList_loadAll rfl 48 (.tmp 10) rfl (w5.heap.size) rfl (HR14.out.get 3 rfl) Tryz.underlying48 rfl HS_x0.out ?_; simp only [Go.Act.put, List.setIfInBounds_toArray, List.set_cons_zero, List.set_cons_succ]) | (refine wpList_loadAll rfl 48 (.tmp 11) rfl (w7.heap.size) rfl (HR14.out.get 1 rfl) Tryz.underlying48 rfl HS_g0.out ?_; simp only [Go.Act.put, List.setIfInBounds_toArray, List.set_cons_zero, List.set_cons_succ]))
  obtain ⟨FO15, hO15, hN15, hr15⟩ := (HR14.out.get 2 rfl)
  have le15 := (HR14.out.le 2 rfl)
  refine (markMachine_o r0 g0 (1) _ FO15 _ hO15 hN15 rfl (by omega) (by have := HRK0.out; omega)).mono ?_
  rintro e115 w115 ⟨m15, rfl, hm15, hp15, ho15⟩
  have q15 := ho15.size
  have hq15 := shMachine.O_R hp15 hr15
  have R15 := ((HR14.out.only [0, 1, 3, 4, 5, 6, 7, 8]).within (Within.of_out ho15 hr15) (by omega) (by
    intro f hf
    simp only [List.filterMap_cons, List.filterMap_nil, List.getElem?_cons_zero, List.getElem?_cons_succ, List.mem_cons, List.not_mem_nil, or_false] at hf
    rcases hf with rfl | rfl | rfl | rfl | rfl | rfl | rfl | rfl
    all_goals (simp only; omega)))
  have R15 := R15.add _ _ _ (loc_sh shMachine _ _ g0 (shMachine.top (1) r0)) (by omega) hq15
  have HR15 := Lib.hid R15; clear R15 HR14 hO15 hN15 hp15 ho15 hq15
  have nk15 : decide (m15 < 0) = false := decide_eq_false (by omega)
  have HM15 := Lib.hid hm15; clear hm15
  go_wp2_with (first | fail | (refine wpList_loadAll rfl 35 (.tmp 3) rfl (w.heap.size) rfl (HR15.out.get 7 rfl) Tryz.underlying35 rfl HS_p0.out ?_; simp only [Go.Act.put, List.setIfInBounds_toArray, List.set_cons_zero, List.set_cons_succ]) | (refine wpList_loadAll rfl 48 (.tmp 8) rfl (w3.heap.size) rfl (HR15.out.get 4 rfl) Tryz.underlying48 rfl HS_w0.out ?_; simp only [Go.Act.put, List.setIfInBounds_toArray, List.set_cons_zero, List.set_cons_succ]) | (refine wpList_loadAll rfl 48 (.tmp 10) rfl (w5.heap.size) rfl (HR15.out.get 3 rfl) Tryz.underlying48 rfl HS_x0.out ?_; simp only [Go.Act.put, List.setIfInBounds_toArray, List.set_cons_zero, List.set_cons_succ]) | (refine wpList_loadAll rfl 48 (.tmp 11) rfl (w7.heap.size) rfl (HR15.out.get 2 rfl) Tryz.underlying48 rfl HS_g0.out ?_; simp only [Go.Act.put, List.setIfInBounds_toArray, List.set_cons_zero, List.set_cons_succ]))
  refine (heldMachine_o r0 g0 (1) _ _ _ _ (HR15.out.get 0 rfl) (HR15.out.le 0 rfl) HRL0.out rfl (by omega) (by have := HRK0.out; omega)).mono ?_
  rintro e116 w116 ⟨m16, rfl, hm16, hb16⟩; have q16 := hb16.size
  have R16 := HR15.out.below hb16
  have HR16 := Lib.hid R16; clear R16 HR15 hb16
  have nk16 : decide (m16 < 0) = false := decide_eq_false (by omega)
  have HM16 := Lib.hid hm16; clear hm16
  have nq16 : (m16 != m15) = false := by rw [HM16.out, HM15.out]; simp
  go_wp2_with (first | fail | (refine wpList_loadAll rfl 35 (.tmp 3) rfl (w.heap.size) rfl (HR16.out.get 7 rfl) Tryz.underlying35 rfl HS_p0.out ?_; simp only [Go.Act.put, List.setIfInBounds_toArray, List.set_cons_zero, List.set_cons_succ]) | (refine wpList_loadAll rfl 48 (.tmp 8) rfl (w3.heap.size) rfl (HR16.out.get 4 rfl) Tryz.underlying48 rfl HS_w0.out ?_; simp only [Go.Act.put, List.setIfInBounds_toArray, List.set_cons_zero, List.set_cons_succ]) | (refine wpList_loadAll rfl 48 (.tmp 10) rfl (w5.heap.size) rfl (HR16.out.get 3 rfl) Tryz.underlying48 rfl HS_x0.out ?_; simp only [Go.Act.put, List.setIfInBounds_toArray, List.set_cons_zero, List.set_cons_succ]) | (refine wpList_loadAll rfl 48 (.tmp 11) rfl (w7.heap.size) rfl (HR16.out.get 2 rfl) Tryz.underlying48 rfl HS_g0.out ?_; simp only [Go.Act.put, List.setIfInBounds_toArray, List.set_cons_zero, List.set_cons_succ]))
  refine (toMachine_o X0 vs0 0 w.heap.size _ (HR16.out.get 8 rfl) (HR16.out.le 8 rfl) HF0.out).mono ?_
  rintro e17 w17 ⟨us17, rfl, hx17, hb17⟩
  have R17 := (HR16.out.below hb17).add _ _ _ (loc_own shMachine _ _ us17 X0) (Nat.le_refl _) hx17; have q17 := hb17.size
  have HS_u0 := Lib.hid (size_of sizeIMachine hx17.reads); have HO_u0 := Lib.hid (shMachine.R_one hx17.reads)
  have HR17 := Lib.hid R17; clear R17 HR16 hx17 hb17
  go_wp2_with (first | fail | (refine wpList_loadAll rfl 35 (.tmp 3) rfl (w.heap.size) rfl (HR17.out.get 8 rfl) Tryz.underlying35 rfl HS_p0.out ?_; simp only [Go.Act.put, List.setIfInBounds_toArray, List.set_cons_zero, List.set_cons_succ]) | (refine wpList_loadAll rfl 48 (.tmp 8) rfl (w3.heap.size) rfl (HR17.out.get 5 rfl) Tryz.underlying48 rfl HS_w0.out ?_; simp only [Go.Act.put, List.setIfInBounds_toArray, List.set_cons_zero, List.set_cons_succ]) | (refine wpList_loadAll rfl 48 (.tmp 10) rfl (w5.heap.size) rfl (HR17.out.get 4 rfl) Tryz.underlying48 rfl HS_x0.out ?_; simp only [Go.Act.put, List.setIfInBounds_toArray, List.set_cons_zero, List.set_cons_succ]) | (refine wpList_loadAll rfl 48 (.tmp 11) rfl (w7.heap.size) rfl (HR17.out.get 3 rfl) Tryz.underlying48 rfl HS_g0.out ?_; simp only [Go.Act.put, List.setIfInBounds_toArray, List.set_cons_zero, List.set_cons_succ]))
  refine (HIM.out HF0.out ht2 _ _ _ _ (HR17.out.get 0 rfl).reads (HR17.out.le 0 rfl)).mono ?_
  rintro e18 w18 ⟨v0, rfl, hx18_0, hb18⟩
  have q18 := hb18.size
  have R18 := HR17.out.below hb18
  have R18 := R18.add _ _ _ (loc_own shMachine _ _ v0 r0) (Nat.le_refl _) hx18_0
  have HS_v0 := Lib.hid (size_of sizeIMachine hx18_0.reads); have HO_v0 := Lib.hid (shMachine.R_one hx18_0.reads)
  have HR18 := Lib.hid R18; clear R18 HR17 hb18 hx18_0
  have HZ19 := Lib.hid (Blk.new w18 48 #[.int .i64 0, .int .i64 0, .slice none 0 0, .slice none 0 0, .slice none 0 0, .slice none 0 0, .slice none 0 0, .int .i64 0, .slice none 0 0, .slice none 0 0, .slice none 0 0, .bool false, .bool false, .bool false, .string ⟨#[]⟩, .slice none 0 0, .int .i64 0, .int .i64 0, .int .i64 0, .int .i64 0, .string ⟨#[]⟩])
  have HZS19 : Hid ((#[.int .i64 0, .int .i64 0, .slice none 0 0, .slice none 0 0, .slice none 0 0, .slice none 0 0, .slice none 0 0, .int .i64 0, .slice none 0 0, .slice none 0 0, .slice none 0 0, .bool false, .bool false, .bool false, .string ⟨#[]⟩, .slice none 0 0, .int .i64 0, .int .i64 0, .int .i64 0, .int .i64 0, .string ⟨#[]⟩] : Array Value).size = v0.toArray.size) := Lib.hid (Option.some.inj ((show (Tryz.prog.info? 48).map (·.size) = some _ from by kernel_rfl).symm.trans HS_v0.out))
  go_upto_region 27 with (first | fail | (refine wpList_loadAll rfl 35 (.tmp 3) rfl (w.heap.size) rfl (HR18.out.get 9 rfl) Tryz.underlying35 rfl HS_p0.out ?_; simp only [Go.Act.put, List.setIfInBounds_toArray, List.set_cons_zero, List.set_cons_succ]) | (refine wpList_loadAll rfl 48 (.tmp 8) rfl (w3.heap.size) rfl (HR18.out.get 6 rfl) Tryz.underlying48 rfl HS_w0.out ?_; simp only [Go.Act.put, List.setIfInBounds_toArray, List.set_cons_zero, List.set_cons_succ]) | (refine wpList_loadAll rfl 48 (.tmp 10) rfl (w5.heap.size) rfl (HR18.out.get 5 rfl) Tryz.underlying48 rfl HS_x0.out ?_; simp only [Go.Act.put, List.setIfInBounds_toArray, List.set_cons_zero, List.set_cons_succ]) | (refine wpList_loadAll rfl 48 (.tmp 11) rfl (w7.heap.size) rfl (HR18.out.get 4 rfl) Tryz.underlying48 rfl HS_g0.out ?_; simp only [Go.Act.put, List.setIfInBounds_toArray, List.set_cons_zero, List.set_cons_succ]) | (refine wpList_storeAll rfl 48 (.tmp 16) (.tmp 90) rfl w18.heap.size v0.toArray rfl rfl HZ19.out HS_v0.out HZS19.out (fun u hu => HO_v0.out u (by simpa using hu)) ?_; intro w19 hk19 ho19 hz19))
  (try simp only [Go.Act.put, List.setIfInBounds_toArray, List.set_cons_zero, List.set_cons_succ])
  have q19 : w18.heap.size + 1 ≤ w19.heap.size ∧ w19.heap.size ≤ w18.heap.size + 1 := by rw [hz19]; simp
  have R19 := HR18.out.store hk19 ho19
  have HR19 := Lib.hid R19; clear R19 HR18 HZ19 HZS19 hk19 ho19 hz19
  go_wp2_with (first | fail | (refine wpList_loadAll rfl 35 (.tmp 3) rfl (w.heap.size) rfl (HR19.out.get 10 rfl) Tryz.underlying35 rfl HS_p0.out ?_; simp only [Go.Act.put, List.setIfInBounds_toArray, List.set_cons_zero, List.set_cons_succ]) | (refine wpList_loadAll rfl 48 (.tmp 8) rfl (w3.heap.size) rfl (HR19.out.get 7 rfl) Tryz.underlying48 rfl HS_w0.out ?_; simp only [Go.Act.put, List.setIfInBounds_toArray, List.set_cons_zero, List.set_cons_succ]) | (refine wpList_loadAll rfl 48 (.tmp 10) rfl (w5.heap.size) rfl (HR19.out.get 6 rfl) Tryz.underlying48 rfl HS_x0.out ?_; simp only [Go.Act.put, List.setIfInBounds_toArray, List.set_cons_zero, List.set_cons_succ]) | (refine wpList_loadAll rfl 48 (.tmp 11) rfl (w7.heap.size) rfl (HR19.out.get 5 rfl) Tryz.underlying48 rfl HS_g0.out ?_; simp only [Go.Act.put, List.setIfInBounds_toArray, List.set_cons_zero, List.set_cons_succ]) | (refine wpList_loadAll rfl 48 (.tmp 16) rfl (w18.heap.size) rfl (HR19.out.get 0 rfl) Tryz.underlying48 rfl HS_v0.out ?_; simp only [Go.Act.put, List.setIfInBounds_toArray, List.set_cons_zero, List.set_cons_succ]))
  refine (eqMachine_o r0 v0 w0 _ _ _ _ _ (HR19.out.get 1 rfl).reads (HR19.out.get 8 rfl) (HR19.out.le 1 rfl) (HR19.out.le 8 rfl) HRL0.out).mono ?_
  rintro e120 w120 ⟨rfl, hb20⟩; have q20 := hb20.size
  have R20 := HR19.out.below hb20
  have HR20 := Lib.hid R20; clear R20 HR19 hb20
  go_wp2_with (first | fail | (refine wpList_loadAll rfl 35 (.tmp 3) rfl (w.heap.size) rfl (HR20.out.get 10 rfl) Tryz.underlying35 rfl HS_p0.out ?_; simp only [Go.Act.put, List.setIfInBounds_toArray, List.set_cons_zero, List.set_cons_succ]) | (refine wpList_loadAll rfl 48 (.tmp 8) rfl (w3.heap.size) rfl (HR20.out.get 7 rfl) Tryz.underlying48 rfl HS_w0.out ?_; simp only [Go.Act.put, List.setIfInBounds_toArray, List.set_cons_zero, List.set_cons_succ]) | (refine wpList_loadAll rfl 48 (.tmp 10) rfl (w5.heap.size) rfl (HR20.out.get 6 rfl) Tryz.underlying48 rfl HS_x0.out ?_; simp only [Go.Act.put, List.setIfInBounds_toArray, List.set_cons_zero, List.set_cons_succ]) | (refine wpList_loadAll rfl 48 (.tmp 11) rfl (w7.heap.size) rfl (HR20.out.get 5 rfl) Tryz.underlying48 rfl HS_g0.out ?_; simp only [Go.Act.put, List.setIfInBounds_toArray, List.set_cons_zero, List.set_cons_succ]) | (refine wpList_loadAll rfl 48 (.tmp 16) rfl (w18.heap.size) rfl (HR20.out.get 0 rfl) Tryz.underlying48 rfl HS_v0.out ?_; simp only [Go.Act.put, List.setIfInBounds_toArray, List.set_cons_zero, List.set_cons_succ]))
  refine (heldMachine_o r0 g0 (1) _ _ _ _ (HR20.out.get 3 rfl) (HR20.out.le 3 rfl) HRL0.out rfl (by omega) (by have := HRK0.out; omega)).mono ?_
  rintro e121 w121 ⟨m21, rfl, hm21, hb21⟩; have q21 := hb21.size
  have R21 := HR20.out.below hb21
  have HR21 := Lib.hid R21; clear R21 HR20 hb21
  have nk21 : decide (m21 < 0) = false := decide_eq_false (by omega)
  have HM21 := Lib.hid hm21; clear hm21
  have nq21 : (m21 != m15) = false := by rw [HM21.out, HM15.out]; simp
  go_wp2_with (first | fail | (refine wpList_loadAll rfl 35 (.tmp 3) rfl (w.heap.size) rfl (HR21.out.get 10 rfl) Tryz.underlying35 rfl HS_p0.out ?_; simp only [Go.Act.put, List.setIfInBounds_toArray, List.set_cons_zero, List.set_cons_succ]) | (refine wpList_loadAll rfl 48 (.tmp 8) rfl (w3.heap.size) rfl (HR21.out.get 7 rfl) Tryz.underlying48 rfl HS_w0.out ?_; simp only [Go.Act.put, List.setIfInBounds_toArray, List.set_cons_zero, List.set_cons_succ]) | (refine wpList_loadAll rfl 48 (.tmp 10) rfl (w5.heap.size) rfl (HR21.out.get 6 rfl) Tryz.underlying48 rfl HS_x0.out ?_; simp only [Go.Act.put, List.setIfInBounds_toArray, List.set_cons_zero, List.set_cons_succ]) | (refine wpList_loadAll rfl 48 (.tmp 11) rfl (w7.heap.size) rfl (HR21.out.get 5 rfl) Tryz.underlying48 rfl HS_g0.out ?_; simp only [Go.Act.put, List.setIfInBounds_toArray, List.set_cons_zero, List.set_cons_succ]) | (refine wpList_loadAll rfl 48 (.tmp 16) rfl (w18.heap.size) rfl (HR21.out.get 0 rfl) Tryz.underlying48 rfl HS_v0.out ?_; simp only [Go.Act.put, List.setIfInBounds_toArray, List.set_cons_zero, List.set_cons_succ]))
  go_ret
  exact ⟨rfl, HR21.out.1⟩

end Go.Proofs.YtlodlplfmpikjaaGreat
