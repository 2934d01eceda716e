/- Machine: shapes and the laws' walks (eq). Printed by gen_fam.py. -/
import Derived.Test.YtlodlplfmpikjaaGreatGro
import Derived.Test.YtlodlplfmpikjaaGreatFamShM
import Derived.Test.YtlodlplfmpikjaaGreatFamEq
namespace Go.Proofs.YtlodlplfmpikjaaGreat
open Go.RowKit

set_option maxHeartbeats 4000000 in
set_option maxRecDepth 100000 in
theorem eqMachine_f (x0 : Int) (x1 : Int) (x2 : List ByteArray) (x3 : List TyRef) (x4 : List TyGiven) (x5 : List TyLoop) (x6 : List TyFrame) (x7 : Int) (x8 : List TyBind) (x9 : List TyCell) (x10 : List TyLevel) (x11 : Bool) (x12 : Bool) (x13 : Bool) (x14 : ByteArray) (x15 : List ByteArray) (x16 : Int) (x17 : Int) (x18 : Int) (x19 : Int) (x20 : ByteArray) (A2 : Option Addr) (c2 : Nat) (A3 : Option Addr) (c3 : Nat) (A4 : Option Addr) (c4 : Nat) (A5 : Option Addr) (c5 : Nat) (A6 : Option Addr) (c6 : Nat) (A8 : Option Addr) (c8 : Nat) (A9 : Option Addr) (c9 : Nat) (A10 : Option Addr) (c10 : Nat) (A15 : Option Addr) (c15 : Nat) (B2 : Option Addr) (d2 : Nat) (B3 : Option Addr) (d3 : Nat) (B4 : Option Addr) (d4 : Nat) (B5 : Option Addr) (d5 : Nat) (B6 : Option Addr) (d6 : Nat) (B8 : Option Addr) (d8 : Nat) (B9 : Option Addr) (d9 : Nat) (B10 : Option Addr) (d10 : Nat) (B15 : Option Addr) (d15 : Nat) (lo hi lo' hi' : Nat) (w : World) (h : shMachine.R w lo hi [.int .i64 x0, .int .i64 x1, .slice A2 x2.length c2, .slice A3 x3.length c3, .slice A4 x4.length c4, .slice A5 x5.length c5, .slice A6 x6.length c6, .int .i64 x7, .slice A8 x8.length c8, .slice A9 x9.length c9, .slice A10 x10.length c10, .bool x11, .bool x12, .bool x13, .string x14, .slice A15 x15.length c15, .int .i64 x16, .int .i64 x17, .int .i64 x18, .int .i64 x19, .string x20] (x0, x1, x2, x3, x4, x5, x6, (x7, x8, x9, x10), x11, x12, (x13, x14, x15), x16, x17, x18, x19, x20)) (h' : shMachine.R w lo' hi' [.int .i64 x0, .int .i64 x1, .slice B2 x2.length d2, .slice B3 x3.length d3, .slice B4 x4.length d4, .slice B5 x5.length d5, .slice B6 x6.length d6, .int .i64 x7, .slice B8 x8.length d8, .slice B9 x9.length d9, .slice B10 x10.length d10, .bool x11, .bool x12, .bool x13, .string x14, .slice B15 x15.length d15, .int .i64 x16, .int .i64 x17, .int .i64 x18, .int .i64 x19, .string x20] (x0, x1, x2, x3, x4, x5, x6, (x7, x8, x9, x10), x11, x12, (x13, x14, x15), x16, x17, x18, x19, x20)) (hhi : hi ≤ w.heap.size) (hhi' : hi' ≤ w.heap.size) (hf : shMachine.fit 4294967296 (x0, x1, x2, x3, x4, x5, x6, (x7, x8, x9, x10), x11, x12, (x13, x14, x15), x16, x17, x18, x19, x20)) :
    Calls Tryz.prog 8 #[.agg #[.int .i64 x0, .int .i64 x1, .slice A2 x2.length c2, .slice A3 x3.length c3, .slice A4 x4.length c4, .slice A5 x5.length c5, .slice A6 x6.length c6, .int .i64 x7, .slice A8 x8.length c8, .slice A9 x9.length c9, .slice A10 x10.length c10, .bool x11, .bool x12, .bool x13, .string x14, .slice A15 x15.length c15, .int .i64 x16, .int .i64 x17, .int .i64 x18, .int .i64 x19, .string x20], .agg #[.int .i64 x0, .int .i64 x1, .slice B2 x2.length d2, .slice B3 x3.length d3, .slice B4 x4.length d4, .slice B5 x5.length d5, .slice B6 x6.length d6, .int .i64 x7, .slice B8 x8.length d8, .slice B9 x9.length d9, .slice B10 x10.length d10, .bool x11, .bool x12, .bool x13, .string x14, .slice B15 x15.length d15, .int .i64 x16, .int .i64 x17, .int .i64 x18, .int .i64 x19, .string x20]] w fun e w' => e = .returned (.bool true) ∧ Below w.heap.size w w' := by
  rw [shMachine_fit] at hf
  obtain ⟨ft0, ft1, ft2, ft3, ft4, ft5, ft6, ft7, ft11, ft12, ft13, ft16, ft17, ft18, ft19, ft20⟩ := hf
  have R0 := ((((Stand.nil w).add lo hi (fun W => shMachine.R W lo hi [.int .i64 x0, .int .i64 x1, .slice A2 x2.length c2, .slice A3 x3.length c3, .slice A4 x4.length c4, .slice A5 x5.length c5, .slice A6 x6.length c6, .int .i64 x7, .slice A8 x8.length c8, .slice A9 x9.length c9, .slice A10 x10.length c10, .bool x11, .bool x12, .bool x13, .string x14, .slice A15 x15.length c15, .int .i64 x16, .int .i64 x17, .int .i64 x18, .int .i64 x19, .string x20] (x0, x1, x2, x3, x4, x5, x6, (x7, x8, x9, x10), x11, x12, (x13, x14, x15), x16, x17, x18, x19, x20)) (fun _ _ hk h => shMachine.R_keep h hk) hhi h).add lo' hi' (fun W => shMachine.R W lo' hi' [.int .i64 x0, .int .i64 x1, .slice B2 x2.length d2, .slice B3 x3.length d3, .slice B4 x4.length d4, .slice B5 x5.length d5, .slice B6 x6.length d6, .int .i64 x7, .slice B8 x8.length d8, .slice B9 x9.length d9, .slice B10 x10.length d10, .bool x11, .bool x12, .bool x13, .string x14, .slice B15 x15.length d15, .int .i64 x16, .int .i64 x17, .int .i64 x18, .int .i64 x19, .string x20] (x0, x1, x2, x3, x4, x5, x6, (x7, x8, x9, x10), x11, x12, (x13, x14, x15), x16, x17, x18, x19, x20)) (fun _ _ hk h => shMachine.R_keep h hk) hhi' h').box 48 #[.int .i64 x0, .int .i64 x1, .slice A2 x2.length c2, .slice A3 x3.length c3, .slice A4 x4.length c4, .slice A5 x5.length c5, .slice A6 x6.length c6, .int .i64 x7, .slice A8 x8.length c8, .slice A9 x9.length c9, .slice A10 x10.length c10, .bool x11, .bool x12, .bool x13, .string x14, .slice A15 x15.length c15, .int .i64 x16, .int .i64 x17, .int .i64 x18, .int .i64 x19, .string x20]).box 48 #[.int .i64 x0, .int .i64 x1, .slice B2 x2.length d2, .slice B3 x3.length d3, .slice B4 x4.length d4, .slice B5 x5.length d5, .slice B6 x6.length d6, .int .i64 x7, .slice B8 x8.length d8, .slice B9 x9.length d9, .slice B10 x10.length d10, .bool x11, .bool x12, .bool x13, .string x14, .slice B15 x15.length d15, .int .i64 x16, .int .i64 x17, .int .i64 x18, .int .i64 x19, .string x20]
  rw [heap_alloc_size1] at R0
  have HR0 := Lib.hid R0
  clear R0 h h'
  go_enter Tryz.func8, Tryz.ntmps8
  go_wp2_with fail
  refine (eqStringS_f A2 B2 c2 d2 x2 lo hi lo' hi' _ (shMachine_f2 (HR0.out.get 3 rfl)) (shMachine_f2 (HR0.out.get 2 rfl)) (HR0.out.le 3 rfl) (HR0.out.le 2 rfl) ft2).mono ?_
  rintro e2 w2 ⟨rfl, hb2⟩
  have HR1 := Lib.hid (HR0.out.below hb2)
  have b2 := (HR1.out.get 0 rfl).cell
  have a2 := (HR1.out.get 1 rfl).cell
  clear hb2 HR0
  go_wp2_with fail
  refine (eqRefS_f A3 B3 c3 d3 x3 lo hi lo' hi' _ (shMachine_f3 (HR1.out.get 3 rfl)) (shMachine_f3 (HR1.out.get 2 rfl)) (HR1.out.le 3 rfl) (HR1.out.le 2 rfl) ft3).mono ?_
  rintro e3 w3 ⟨rfl, hb3⟩
  have HR2 := Lib.hid (HR1.out.below hb3)
  have b3 := (HR2.out.get 0 rfl).cell
  have a3 := (HR2.out.get 1 rfl).cell
  clear hb3 HR1
  go_wp2_with fail
  refine (eqGivenS_f A4 B4 c4 d4 x4 lo hi lo' hi' _ (shMachine_f4 (HR2.out.get 3 rfl)) (shMachine_f4 (HR2.out.get 2 rfl)) (HR2.out.le 3 rfl) (HR2.out.le 2 rfl) ft4).mono ?_
  rintro e4 w4 ⟨rfl, hb4⟩
  have HR3 := Lib.hid (HR2.out.below hb4)
  have b4 := (HR3.out.get 0 rfl).cell
  have a4 := (HR3.out.get 1 rfl).cell
  clear hb4 HR2
  go_wp2_with fail
  refine (eqLoopS_f A5 B5 c5 d5 x5 lo hi lo' hi' _ (shMachine_f5 (HR3.out.get 3 rfl)) (shMachine_f5 (HR3.out.get 2 rfl)) (HR3.out.le 3 rfl) (HR3.out.le 2 rfl) ft5).mono ?_
  rintro e5 w5 ⟨rfl, hb5⟩
  have HR4 := Lib.hid (HR3.out.below hb5)
  have b5 := (HR4.out.get 0 rfl).cell
  have a5 := (HR4.out.get 1 rfl).cell
  clear hb5 HR3
  go_wp2_with fail
  refine (eqFrameS_f A6 B6 c6 d6 x6 lo hi lo' hi' _ (shMachine_f6 (HR4.out.get 3 rfl)) (shMachine_f6 (HR4.out.get 2 rfl)) (HR4.out.le 3 rfl) (HR4.out.le 2 rfl) ft6).mono ?_
  rintro e6 w6 ⟨rfl, hb6⟩
  have HR5 := Lib.hid (HR4.out.below hb6)
  have b6 := (HR5.out.get 0 rfl).cell
  have a6 := (HR5.out.get 1 rfl).cell
  clear hb6 HR4
  go_wp2_with fail
  refine (eqLocals_f x7 x8 x9 x10 A8 c8 A9 c9 A10 c10 B8 d8 B9 d9 B10 d10 lo hi lo' hi' _ (shMachine_f7 (HR5.out.get 3 rfl)) (shMachine_f7 (HR5.out.get 2 rfl)) (HR5.out.le 3 rfl) (HR5.out.le 2 rfl) ft7).mono ?_
  rintro e7 w7 ⟨rfl, hb7⟩
  have HR6 := Lib.hid (HR5.out.below hb7)
  have b7 := (HR6.out.get 0 rfl).cell
  have a7 := (HR6.out.get 1 rfl).cell
  clear hb7 HR5
  go_wp2_with fail
  refine (eqRef_f x13 x14 x15 A15 c15 B15 d15 lo hi lo' hi' _ (shMachine_f13 (HR6.out.get 3 rfl)) (shMachine_f13 (HR6.out.get 2 rfl)) (HR6.out.le 3 rfl) (HR6.out.le 2 rfl) ft13).mono ?_
  rintro e13 w13 ⟨rfl, hb13⟩
  have HR7 := Lib.hid (HR6.out.below hb13)
  have b13 := (HR7.out.get 0 rfl).cell
  have a13 := (HR7.out.get 1 rfl).cell
  clear hb13 HR6
  go_wp2_with fail
  go_ret
  exact ⟨rfl, HR7.out.1⟩

end Go.Proofs.YtlodlplfmpikjaaGreat
