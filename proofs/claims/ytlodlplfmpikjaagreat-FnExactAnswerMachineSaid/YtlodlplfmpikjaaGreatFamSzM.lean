/- Machine: shapes and the laws' walks (sz). Printed by gen_fam.py. -/
import Derived.Test.YtlodlplfmpikjaaGreatGro
import Derived.Test.YtlodlplfmpikjaaGreatFamShM
import Derived.Test.YtlodlplfmpikjaaGreatFamSz
namespace Go.Proofs.YtlodlplfmpikjaaGreat
open Go.RowKit

set_option maxHeartbeats 4000000 in
set_option maxRecDepth 100000 in
theorem szMachine_f (x0 : Int) (x1 : Int) (x2 : List ByteArray) (x3 : List TyRef) (x4 : List TyGiven) (x5 : List TyLoop) (x6 : List TyFrame) (x7 : Int) (x8 : List TyBind) (x9 : List TyCell) (x10 : List TyLevel) (x11 : Bool) (x12 : Bool) (x13 : Bool) (x14 : ByteArray) (x15 : List ByteArray) (x16 : Int) (x17 : Int) (x18 : Int) (x19 : Int) (x20 : ByteArray) (A2 : Option Addr) (c2 : Nat) (A3 : Option Addr) (c3 : Nat) (A4 : Option Addr) (c4 : Nat) (A5 : Option Addr) (c5 : Nat) (A6 : Option Addr) (c6 : Nat) (A8 : Option Addr) (c8 : Nat) (A9 : Option Addr) (c9 : Nat) (A10 : Option Addr) (c10 : Nat) (A15 : Option Addr) (c15 : Nat) (lo hi : Nat) (left : Int) (w : World) (h : shMachine.R w lo hi [.int .i64 x0, .int .i64 x1, .slice A2 x2.length c2, .slice A3 x3.length c3, .slice A4 x4.length c4, .slice A5 x5.length c5, .slice A6 x6.length c6, .int .i64 x7, .slice A8 x8.length c8, .slice A9 x9.length c9, .slice A10 x10.length c10, .bool x11, .bool x12, .bool x13, .string x14, .slice A15 x15.length c15, .int .i64 x16, .int .i64 x17, .int .i64 x18, .int .i64 x19, .string x20] (x0, x1, x2, x3, x4, x5, x6, (x7, x8, x9, x10), x11, x12, (x13, x14, x15), x16, x17, x18, x19, x20)) (hhi : hi ≤ w.heap.size) (hf : shMachine.fit 9223372036854775807 (x0, x1, x2, x3, x4, x5, x6, (x7, x8, x9, x10), x11, x12, (x13, x14, x15), x16, x17, x18, x19, x20)) (hl0 : 0 ≤ left) (hl : left ≤ 1048576) :
    Calls Tryz.prog 4 #[.agg #[.int .i64 x0, .int .i64 x1, .slice A2 x2.length c2, .slice A3 x3.length c3, .slice A4 x4.length c4, .slice A5 x5.length c5, .slice A6 x6.length c6, .int .i64 x7, .slice A8 x8.length c8, .slice A9 x9.length c9, .slice A10 x10.length c10, .bool x11, .bool x12, .bool x13, .string x14, .slice A15 x15.length c15, .int .i64 x16, .int .i64 x17, .int .i64 x18, .int .i64 x19, .string x20], .int .i64 left] w fun e w' => ∃ m, e = .returned (.int .i64 m) ∧ Left left (shMachine.cost (x0, x1, x2, x3, x4, x5, x6, (x7, x8, x9, x10), x11, x12, (x13, x14, x15), x16, x17, x18, x19, x20)) m ∧ Below w.heap.size w w' := by
  rw [shMachine_cost]
  rw [shMachine_fit] at hf
  obtain ⟨ft0, ft1, ft2, ft3, ft4, ft5, ft6, ft7, ft11, ft12, ft13, ft16, ft17, ft18, ft19, ft20⟩ := hf
  have R0 := ((Stand.nil w).add lo hi (fun W => shMachine.R W lo hi [.int .i64 x0, .int .i64 x1, .slice A2 x2.length c2, .slice A3 x3.length c3, .slice A4 x4.length c4, .slice A5 x5.length c5, .slice A6 x6.length c6, .int .i64 x7, .slice A8 x8.length c8, .slice A9 x9.length c9, .slice A10 x10.length c10, .bool x11, .bool x12, .bool x13, .string x14, .slice A15 x15.length c15, .int .i64 x16, .int .i64 x17, .int .i64 x18, .int .i64 x19, .string x20] (x0, x1, x2, x3, x4, x5, x6, (x7, x8, x9, x10), x11, x12, (x13, x14, x15), x16, x17, x18, x19, x20)) (fun _ _ hk h => shMachine.R_keep h hk) hhi h).box 35 #[.int .i64 x0, .int .i64 x1, .slice A2 x2.length c2, .slice A3 x3.length c3, .slice A4 x4.length c4, .slice A5 x5.length c5, .slice A6 x6.length c6, .int .i64 x7, .slice A8 x8.length c8, .slice A9 x9.length c9, .slice A10 x10.length c10, .bool x11, .bool x12, .bool x13, .string x14, .slice A15 x15.length c15, .int .i64 x16, .int .i64 x17, .int .i64 x18, .int .i64 x19, .string x20]
  have HR0 := Lib.hid R0
  clear R0 h
  go_enter Tryz.func4, Tryz.ntmps4
  go_wp2_with fail
  refine (szStringS_f A2 c2 x2 lo hi _ _ (shMachine_f2 (HR0.out.get 1 rfl)) (HR0.out.le 1 rfl) ft2 (by omega) (by omega)).mono ?_
  rintro e2 w2 ⟨m2, rfl, hm2, hb2⟩
  have HR1 := Lib.hid (HR0.out.below hb2)
  have b2 := (HR1.out.get 0 rfl).cell
  clear hb2 HR0
  rcases hm2 with rfl | ⟨hp2, hm2⟩
  · go_wp2_with fail
    go_ret
    exact ⟨_, rfl, .inl rfl, HR1.out.1⟩
  have n2 : ¬ (m2 < 0) := by omega
  have u2 : m2 ≤ 1048576 := by omega
  have HM2 := Lib.hid hm2; clear hm2
  go_wp2_with fail
  refine (szRefS_f A3 c3 x3 lo hi _ _ (shMachine_f3 (HR1.out.get 1 rfl)) (HR1.out.le 1 rfl) ft3 (by omega) (by omega)).mono ?_
  rintro e3 w3 ⟨m3, rfl, hm3, hb3⟩
  have HR2 := Lib.hid (HR1.out.below hb3)
  have b3 := (HR2.out.get 0 rfl).cell
  clear hb3 HR1
  rcases hm3 with rfl | ⟨hp3, hm3⟩
  · go_wp2_with fail
    go_ret
    exact ⟨_, rfl, .inl rfl, HR2.out.1⟩
  have n3 : ¬ (m3 < 0) := by omega
  have u3 : m3 ≤ 1048576 := by omega
  have HM3 := Lib.hid hm3; clear hm3
  go_wp2_with fail
  refine (szGivenS_f A4 c4 x4 lo hi _ _ (shMachine_f4 (HR2.out.get 1 rfl)) (HR2.out.le 1 rfl) ft4 (by omega) (by omega)).mono ?_
  rintro e4 w4 ⟨m4, rfl, hm4, hb4⟩
  have HR3 := Lib.hid (HR2.out.below hb4)
  have b4 := (HR3.out.get 0 rfl).cell
  clear hb4 HR2
  rcases hm4 with rfl | ⟨hp4, hm4⟩
  · go_wp2_with fail
    go_ret
    exact ⟨_, rfl, .inl rfl, HR3.out.1⟩
  have n4 : ¬ (m4 < 0) := by omega
  have u4 : m4 ≤ 1048576 := by omega
  have HM4 := Lib.hid hm4; clear hm4
  go_wp2_with fail
  refine (szLoopS_f A5 c5 x5 lo hi _ _ (shMachine_f5 (HR3.out.get 1 rfl)) (HR3.out.le 1 rfl) ft5 (by omega) (by omega)).mono ?_
  rintro e5 w5 ⟨m5, rfl, hm5, hb5⟩
  have HR4 := Lib.hid (HR3.out.below hb5)
  have b5 := (HR4.out.get 0 rfl).cell
  clear hb5 HR3
  rcases hm5 with rfl | ⟨hp5, hm5⟩
  · go_wp2_with fail
    go_ret
    exact ⟨_, rfl, .inl rfl, HR4.out.1⟩
  have n5 : ¬ (m5 < 0) := by omega
  have u5 : m5 ≤ 1048576 := by omega
  have HM5 := Lib.hid hm5; clear hm5
  go_wp2_with fail
  refine (szFrameS_f A6 c6 x6 lo hi _ _ (shMachine_f6 (HR4.out.get 1 rfl)) (HR4.out.le 1 rfl) ft6 (by omega) (by omega)).mono ?_
  rintro e6 w6 ⟨m6, rfl, hm6, hb6⟩
  have HR5 := Lib.hid (HR4.out.below hb6)
  have b6 := (HR5.out.get 0 rfl).cell
  clear hb6 HR4
  rcases hm6 with rfl | ⟨hp6, hm6⟩
  · go_wp2_with fail
    go_ret
    exact ⟨_, rfl, .inl rfl, HR5.out.1⟩
  have n6 : ¬ (m6 < 0) := by omega
  have u6 : m6 ≤ 1048576 := by omega
  have HM6 := Lib.hid hm6; clear hm6
  go_wp2_with fail
  refine (szLocals_f x7 x8 x9 x10 A8 c8 A9 c9 A10 c10 lo hi _ _ (shMachine_f7 (HR5.out.get 1 rfl)) (HR5.out.le 1 rfl) ft7 (by omega) (by omega)).mono ?_
  rintro e7 w7 ⟨m7, rfl, hm7, hb7⟩
  have HR6 := Lib.hid (HR5.out.below hb7)
  have b7 := (HR6.out.get 0 rfl).cell
  clear hb7 HR5
  rcases hm7 with rfl | ⟨hp7, hm7⟩
  · go_wp2_with fail
    go_ret
    exact ⟨_, rfl, .inl rfl, HR6.out.1⟩
  have n7 : ¬ (m7 < 0) := by omega
  have u7 : m7 ≤ 1048576 := by omega
  have HM7 := Lib.hid hm7; clear hm7
  go_wp2_with fail
  refine (szRef_f x13 x14 x15 A15 c15 lo hi _ _ (shMachine_f13 (HR6.out.get 1 rfl)) (HR6.out.le 1 rfl) ft13 (by omega) (by omega)).mono ?_
  rintro e13 w13 ⟨m13, rfl, hm13, hb13⟩
  have HR7 := Lib.hid (HR6.out.below hb13)
  have b13 := (HR7.out.get 0 rfl).cell
  clear hb13 HR6
  rcases hm13 with rfl | ⟨hp13, hm13⟩
  · go_wp2_with fail
    go_ret
    exact ⟨_, rfl, .inl rfl, HR7.out.1⟩
  have n13 : ¬ (m13 < 0) := by omega
  have u13 : m13 ≤ 1048576 := by omega
  have HM13 := Lib.hid hm13; clear hm13
  by_cases g20 : m13 - (x20.size : Int) < 0
  · go_wp2_with fail
    go_ret
    exact ⟨_, rfl, .inl rfl, HR7.out.1⟩
  go_wp2_with fail
  go_ret
  refine ⟨_, rfl, .inr ⟨by omega, ?_⟩, HR7.out.1⟩
  have := HM2.out
  have := HM3.out
  have := HM4.out
  have := HM5.out
  have := HM6.out
  have := HM7.out
  have := HM13.out
  omega

end Go.Proofs.YtlodlplfmpikjaaGreat
