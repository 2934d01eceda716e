/- Machine: shapes and the laws' walks (sz). Printed by gen_fam.py. -/
import Derived.Test.YtgnmollbnopigaaGreatJoinSTAf
import Derived.Test.YtgnmollbnopigaaGreatJoinSTAj
import Derived.Test.YtgnmollbnopigaaGreatJoinSTAk
import Derived.Test.YtgnmollbnopigaaGreatJoinSTAr
import Derived.Test.YtgnmollbnopigaaGreatJoinSTAn
import Derived.Test.YtgnmollbnopigaaGreatJoinSTAo
import Derived.Test.YtgnmollbnopigaaGreatJoinSTAp
import Derived.Test.YtgnmollbnopigaaGreatJoinSTAq
set_option maxHeartbeats 16000000
set_option maxRecDepth 100000
namespace Go.Proofs.YtgnmollbnopigaaGreat
open Go.RowKit
theorem szMachine_f (x0 : Int) (x1 : Int) (x2 : List ByteArray) (x3 : List TyRef) (x4 : List TyGiven) (x5 : List TyLoop) (x6 : List TyFrame) (x7 : Int) (x8 : List TyBind) (x9 : List TyCell) (x10 : List TyLevel) (x11 : Bool) (x12 : Bool) (x13 : Bool) (x14 : ByteArray) (x15 : List ByteArray) (x16 : Int) (x17 : Int) (x18 : Int) (x19 : Int) (x20 : ByteArray) (A2 : Option Addr) (c2 : Nat) (A3 : Option Addr) (c3 : Nat) (A4 : Option Addr) (c4 : Nat) (A5 : Option Addr) (c5 : Nat) (A6 : Option Addr) (c6 : Nat) (A8 : Option Addr) (c8 : Nat) (A9 : Option Addr) (c9 : Nat) (A10 : Option Addr) (c10 : Nat) (A15 : Option Addr) (c15 : Nat) (lo hi : Nat) (left : Int) (w : World) (h : shMachine.R w lo hi [.int .i64 x0, .int .i64 x1, .slice A2 x2.length c2, .slice A3 x3.length c3, .slice A4 x4.length c4, .slice A5 x5.length c5, .slice A6 x6.length c6, .int .i64 x7, .slice A8 x8.length c8, .slice A9 x9.length c9, .slice A10 x10.length c10, .bool x11, .bool x12, .bool x13, .string x14, .slice A15 x15.length c15, .int .i64 x16, .int .i64 x17, .int .i64 x18, .int .i64 x19, .string x20] (x0, x1, x2, x3, x4, x5, x6, (x7, x8, x9, x10), x11, x12, (x13, x14, x15), x16, x17, x18, x19, x20)) (hhi : hi ≤ w.heap.size) (hf : shMachine.fit 9223372036854775807 (x0, x1, x2, x3, x4, x5, x6, (x7, x8, x9, x10), x11, x12, (x13, x14, x15), x16, x17, x18, x19, x20)) (hl0 : 0 ≤ left) (hl : left ≤ 1048576) :
  Calls Tryz.prog 178 #[.agg #[.int .i64 x0, .int .i64 x1, .slice A2 x2.length c2, .slice A3 x3.length c3, .slice A4 x4.length c4, .slice A5 x5.length c5, .slice A6 x6.length c6, .int .i64 x7, .slice A8 x8.length c8, .slice A9 x9.length c9, .slice A10 x10.length c10, .bool x11, .bool x12, .bool x13, .string x14, .slice A15 x15.length c15, .int .i64 x16, .int .i64 x17, .int .i64 x18, .int .i64 x19, .string x20], .int .i64 left] w fun e w' => ∃ m, e = .returned (.int .i64 m) ∧ Left left (shMachine.cost (x0, x1, x2, x3, x4, x5, x6, (x7, x8, x9, x10), x11, x12, (x13, x14, x15), x16, x17, x18, x19, x20)) m ∧ Below w.heap.size w w' := by
 rw [shMachine_cost]
 rw [shMachine_fit] at hf
 obtain ⟨ft0, ft1, ft2, ft3, ft4, ft5, ft6, ft7, ft11, ft12, ft13, ft16, ft17, ft18, ft19, ft20⟩ := hf
 have R0 := ((Stand.nil w).add lo hi (fun W => shMachine.R W lo hi [.int .i64 x0, .int .i64 x1, .slice A2 x2.length c2, .slice A3 x3.length c3, .slice A4 x4.length c4, .slice A5 x5.length c5, .slice A6 x6.length c6, .int .i64 x7, .slice A8 x8.length c8, .slice A9 x9.length c9, .slice A10 x10.length c10, .bool x11, .bool x12, .bool x13, .string x14, .slice A15 x15.length c15, .int .i64 x16, .int .i64 x17, .int .i64 x18, .int .i64 x19, .string x20] (x0, x1, x2, x3, x4, x5, x6, (x7, x8, x9, x10), x11, x12, (x13, x14, x15), x16, x17, x18, x19, x20)) (fun _ _ hk h => shMachine.R_keep h hk) hhi h).box 212 #[.int .i64 x0, .int .i64 x1, .slice A2 x2.length c2, .slice A3 x3.length c3, .slice A4 x4.length c4, .slice A5 x5.length c5, .slice A6 x6.length c6, .int .i64 x7, .slice A8 x8.length c8, .slice A9 x9.length c9, .slice A10 x10.length c10, .bool x11, .bool x12, .bool x13, .string x14, .slice A15 x15.length c15, .int .i64 x16, .int .i64 x17, .int .i64 x18, .int .i64 x19, .string x20]
 have HR0 := Lib.hid R0
 clear R0 h
 go_enter Tryz.func178, Tryz.ntmps178
 go_wp2_with fail
 refine (szStringS_f A2 c2 x2 lo hi _ _ (shMachine_f2 (HR0.out.get 1 rfl)) (HR0.out.le 1 rfl) ft2 (by omega) (by omega)).mono ?_
 rintro e2 w2 ⟨m2, rfl, hm2, hb2⟩
 have HR1 := Lib.hid (HR0.out.below hb2)
 have b2 := (HR1.out.get 0 rfl).cell
 clear hb2 HR0
 rcases hm2 with rfl | ⟨hp2, hm2⟩
 ·go_wp2_with fail
  go_ret
  exact ⟨_, rfl, .inl rfl, HR1.out.1⟩
 have n2 : ¬ (m2 < 0) := by omega
 have u2 : m2 ≤ 1048576 := by omega
 have HM2 := Lib.hid hm2; clear hm2
 go_wp2_with fail
 refine (szRefS_f A3 c3 x3 lo hi _ _ (shMachine_f3 (HR1.out.get 1 rfl)) (HR1.out.le 1 rfl) ft3 (by omega) (by omega)).mono ?_
 rintro e3 w3 ⟨m3, rfl, hm3, hb3⟩
 have HR2 := Lib.hid (HR1.out.below hb3)
 have b3 := (HR2.out.get 0 rfl).cell
 clear hb3 HR1
 rcases hm3 with rfl | ⟨hp3, hm3⟩
 ·go_wp2_with fail
  go_ret
  exact ⟨_, rfl, .inl rfl, HR2.out.1⟩
 have n3 : ¬ (m3 < 0) := by omega
 have u3 : m3 ≤ 1048576 := by omega
 have HM3 := Lib.hid hm3; clear hm3
 go_wp2_with fail
 refine (szGivenS_f A4 c4 x4 lo hi _ _ (shMachine_f4 (HR2.out.get 1 rfl)) (HR2.out.le 1 rfl) ft4 (by omega) (by omega)).mono ?_
 rintro e4 w4 ⟨m4, rfl, hm4, hb4⟩
 have HR3 := Lib.hid (HR2.out.below hb4)
 have b4 := (HR3.out.get 0 rfl).cell
 clear hb4 HR2
 rcases hm4 with rfl | ⟨hp4, hm4⟩
 ·go_wp2_with fail
  go_ret
  exact ⟨_, rfl, .inl rfl, HR3.out.1⟩
 have n4 : ¬ (m4 < 0) := by omega
 have u4 : m4 ≤ 1048576 := by omega
 have HM4 := Lib.hid hm4; clear hm4
 go_wp2_with fail
 refine (szLoopS_f A5 c5 x5 lo hi _ _ (shMachine_f5 (HR3.out.get 1 rfl)) (HR3.out.le 1 rfl) ft5 (by omega) (by omega)).mono ?_
 rintro e5 w5 ⟨m5, rfl, hm5, hb5⟩
 have HR4 := Lib.hid (HR3.out.below hb5)
 have b5 := (HR4.out.get 0 rfl).cell
 clear hb5 HR3
 rcases hm5 with rfl | ⟨hp5, hm5⟩
 ·go_wp2_with fail
  go_ret
  exact ⟨_, rfl, .inl rfl, HR4.out.1⟩
 have n5 : ¬ (m5 < 0) := by omega
 have u5 : m5 ≤ 1048576 := by omega
 have HM5 := Lib.hid hm5; clear hm5
 go_wp2_with fail
 refine (szFrameS_f A6 c6 x6 lo hi _ _ (shMachine_f6 (HR4.out.get 1 rfl)) (HR4.out.le 1 rfl) ft6 (by omega) (by omega)).mono ?_
 rintro e6 w6 ⟨m6, rfl, hm6, hb6⟩
 have HR5 := Lib.hid (HR4.out.below hb6)
 have b6 := (HR5.out.get 0 rfl).cell
 clear hb6 HR4
 rcases hm6 with rfl | ⟨hp6, hm6⟩
 ·go_wp2_with fail
  go_ret
  exact ⟨_, rfl, .inl rfl, HR5.out.1⟩
 have n6 : ¬ (m6 < 0) := by omega
 have u6 : m6 ≤ 1048576 := by omega
 have HM6 := Lib.hid hm6; clear hm6
 go_wp2_with fail
 refine (szLocals_f x7 x8 x9 x10 A8 c8 A9 c9 A10 c10 lo hi _ _ (shMachine_f7 (HR5.out.get 1 rfl)) (HR5.out.le 1 rfl) ft7 (by omega) (by omega)).mono ?_
 rintro e7 w7 ⟨m7, rfl, hm7, hb7⟩
 have HR6 := Lib.hid (HR5.out.below hb7)
 have b7 := (HR6.out.get 0 rfl).cell
 clear hb7 HR5
 rcases hm7 with rfl | ⟨hp7, hm7⟩
 ·go_wp2_with fail
  go_ret
  exact ⟨_, rfl, .inl rfl, HR6.out.1⟩
 have n7 : ¬ (m7 < 0) := by omega
 have u7 : m7 ≤ 1048576 := by omega
 have HM7 := Lib.hid hm7; clear hm7
 go_wp2_with fail
 refine (szRef_f x13 x14 x15 A15 c15 lo hi _ _ (shMachine_f13 (HR6.out.get 1 rfl)) (HR6.out.le 1 rfl) ft13 (by omega) (by omega)).mono ?_
 rintro e13 w13 ⟨m13, rfl, hm13, hb13⟩
 have HR7 := Lib.hid (HR6.out.below hb13)
 have b13 := (HR7.out.get 0 rfl).cell
 clear hb13 HR6
 rcases hm13 with rfl | ⟨hp13, hm13⟩
 ·go_wp2_with fail
  go_ret
  exact ⟨_, rfl, .inl rfl, HR7.out.1⟩
 have n13 : ¬ (m13 < 0) := by omega
 have u13 : m13 ≤ 1048576 := by omega
 have HM13 := Lib.hid hm13; clear hm13
 by_cases g20 : m13 - (x20.size : Int) < 0
 ·go_wp2_with fail
  go_ret
  exact ⟨_, rfl, .inl rfl, HR7.out.1⟩
 go_wp2_with fail
 go_ret
 refine ⟨_, rfl, .inr ⟨by omega, ?_⟩, HR7.out.1⟩
 have := HM2.out
 have := HM3.out
 have := HM4.out
 have := HM5.out
 have := HM6.out
 have := HM7.out
 have := HM13.out
 omega
end Go.Proofs.YtgnmollbnopigaaGreat
/- Machine, Trans, Program, Tree, Locks, Disk, Top, Btree, Journal, Cache: walks field by field (o). Printed by gen_big.py. -/
namespace Go.Proofs.YtgnmollbnopigaaGreat
open Go.RowKit
theorem sizeLMachine : (Tryz.prog.info? 212).map (·.size) = some shMachine.k := by kernel_rfl
theorem sizeIMachine : (Tryz.prog.info? 154).map (·.size) = some shMachine.k := by kernel_rfl
theorem szMachine_o (X : TyMachine) (vs : List Value) (lo hi : Nat) (left : Int) (w : World) (h : shMachine.R w lo hi vs X) (hhi : hi ≤ w.heap.size) (hf : shMachine.fit 9223372036854775807 X) (hl0 : 0 ≤ left) (hl : left ≤ 1048576) :
  Calls Tryz.prog 178 #[.agg vs.toArray, .int .i64 left] w fun e w' => ∃ m, e = .returned (.int .i64 m) ∧ Left left (shMachine.cost X) m ∧ Below w.heap.size w w' := by
 obtain ⟨x0, x1, x2, x3, x4, x5, x6, ⟨x7, x8, x9, x10⟩, x11, x12, ⟨x13, x14, x15⟩, x16, x17, x18, x19, x20⟩ := X
 have h0 := h
 obtain ⟨A2, c2, A3, c3, A4, c4, A5, c5, A6, c6, A8, c8, A9, c9, A10, c10, A15, c15, rfl, _⟩ := shMachine_R.1 h0
 exact szMachine_f x0 x1 x2 x3 x4 x5 x6 x7 x8 x9 x10 x11 x12 x13 x14 x15 x16 x17 x18 x19 x20 A2 c2 A3 c3 A4 c4 A5 c5 A6 c6 A8 c8 A9 c9 A10 c10 A15 c15 lo hi left w h hhi hf hl0 hl
theorem toMachine_o (X : TyMachine) (vs : List Value) (lo hi : Nat) (w : World) (h : shMachine.R w lo hi vs X) (hhi : hi ≤ w.heap.size) (hf : shMachine.fit 1048576 X) :
  Calls Tryz.prog 189 #[.agg vs.toArray] w fun e w' => ∃ us : List Value, e = .returned (.agg us.toArray) ∧ shMachine.R w' w.heap.size w'.heap.size us X ∧ Below w.heap.size w w' := by
 obtain ⟨x0, x1, x2, x3, x4, x5, x6, ⟨x7, x8, x9, x10⟩, x11, x12, ⟨x13, x14, x15⟩, x16, x17, x18, x19, x20⟩ := X
 have h0 := h
 obtain ⟨A2, c2, A3, c3, A4, c4, A5, c5, A6, c6, A8, c8, A9, c9, A10, c10, A15, c15, rfl, _⟩ := shMachine_R.1 h0
 refine (toMachine_f x0 x1 x2 x3 x4 x5 x6 x7 x8 x9 x10 x11 x12 x13 x14 x15 x16 x17 x18 x19 x20 A2 c2 A3 c3 A4 c4 A5 c5 A6 c6 A8 c8 A9 c9 A10 c10 A15 c15 lo hi w h hhi hf).mono ?_
 rintro e w' ⟨B2, d2, B3, d3, B4, d4, B5, d5, B6, d6, B8, d8, B9, d9, B10, d10, B15, d15, rfl, ho, hb⟩
 exact ⟨_, rfl, ho.reads, hb⟩
theorem eqMachine_o (X : TyMachine) (vs us : List Value) (lo hi lo' hi' : Nat) (w : World) (h : shMachine.R w lo hi vs X) (h' : shMachine.R w lo' hi' us X) (hhi : hi ≤ w.heap.size) (hhi' : hi' ≤ w.heap.size) (hf : shMachine.fit 4294967296 X) :
  Calls Tryz.prog 206 #[.agg vs.toArray, .agg us.toArray] w fun e w' => e = .returned (.bool true) ∧ Below w.heap.size w w' := by
 obtain ⟨x0, x1, x2, x3, x4, x5, x6, ⟨x7, x8, x9, x10⟩, x11, x12, ⟨x13, x14, x15⟩, x16, x17, x18, x19, x20⟩ := X
 have h0 := h; have h1 := h'
 obtain ⟨A2, c2, A3, c3, A4, c4, A5, c5, A6, c6, A8, c8, A9, c9, A10, c10, A15, c15, rfl, _⟩ := shMachine_R.1 h0
 obtain ⟨B2, d2, B3, d3, B4, d4, B5, d5, B6, d6, B8, d8, B9, d9, B10, d10, B15, d15, rfl, _⟩ := shMachine_R.1 h1
 exact eqMachine_f x0 x1 x2 x3 x4 x5 x6 x7 x8 x9 x10 x11 x12 x13 x14 x15 x16 x17 x18 x19 x20 A2 c2 A3 c3 A4 c4 A5 c5 A6 c6 A8 c8 A9 c9 A10 c10 A15 c15 B2 d2 B3 d3 B4 d4 B5 d5 B6 d6 B8 d8 B9 d9 B10 d10 B15 d15 lo hi lo' hi' w h h' hhi hhi' hf
theorem sizeLTrans : (Tryz.prog.info? 214).map (·.size) = some shTrans.k := by kernel_rfl
theorem sizeITrans : (Tryz.prog.info? 157).map (·.size) = some shTrans.k := by kernel_rfl
theorem szTrans_o (X : TyTrans) (vs : List Value) (lo hi : Nat) (left : Int) (w : World) (h : shTrans.R w lo hi vs X) (hhi : hi ≤ w.heap.size) (hf : shTrans.fit 9223372036854775807 X) (hl0 : 0 ≤ left) (hl : left ≤ 1048576) :
  Calls Tryz.prog 179 #[.agg vs.toArray, .int .i64 left] w fun e w' => ∃ m, e = .returned (.int .i64 m) ∧ Left left (shTrans.cost X) m ∧ Below w.heap.size w w' := by
 obtain ⟨x0, x1, x2⟩ := X
 have h0 := h
 obtain ⟨A2, c2, rfl, _⟩ := shTrans_R.1 h0
 exact szTrans_f x0 x1 x2 A2 c2 lo hi left w h hhi hf hl0 hl
theorem toTrans_o (X : TyTrans) (vs : List Value) (lo hi : Nat) (w : World) (h : shTrans.R w lo hi vs X) (hhi : hi ≤ w.heap.size) (hf : shTrans.fit 1048576 X) :
  Calls Tryz.prog 190 #[.agg vs.toArray] w fun e w' => ∃ us : List Value, e = .returned (.agg us.toArray) ∧ shTrans.R w' w.heap.size w'.heap.size us X ∧ Below w.heap.size w w' := by
 obtain ⟨x0, x1, x2⟩ := X
 have h0 := h
 obtain ⟨A2, c2, rfl, _⟩ := shTrans_R.1 h0
 refine (toTrans_f x0 x1 x2 A2 c2 lo hi w h hhi hf).mono ?_
 rintro e w' ⟨B2, d2, rfl, ho, hb⟩
 exact ⟨_, rfl, ho.reads, hb⟩
theorem eqTrans_o (X : TyTrans) (vs us : List Value) (lo hi lo' hi' : Nat) (w : World) (h : shTrans.R w lo hi vs X) (h' : shTrans.R w lo' hi' us X) (hhi : hi ≤ w.heap.size) (hhi' : hi' ≤ w.heap.size) (hf : shTrans.fit 4294967296 X) :
  Calls Tryz.prog 207 #[.agg vs.toArray, .agg us.toArray] w fun e w' => e = .returned (.bool true) ∧ Below w.heap.size w w' := by
 obtain ⟨x0, x1, x2⟩ := X
 have h0 := h; have h1 := h'
 obtain ⟨A2, c2, rfl, _⟩ := shTrans_R.1 h0
 obtain ⟨B2, d2, rfl, _⟩ := shTrans_R.1 h1
 exact eqTrans_f x0 x1 x2 A2 c2 B2 d2 lo hi lo' hi' w h h' hhi hhi' hf
theorem sizeLProgram : (Tryz.prog.info? 25).map (·.size) = some shProgram.k := by kernel_rfl
theorem sizeIProgram : (Tryz.prog.info? 62).map (·.size) = some shProgram.k := by kernel_rfl
theorem szProgram_o (X : TyProgram) (vs : List Value) (lo hi : Nat) (left : Int) (w : World) (h : shProgram.R w lo hi vs X) (hhi : hi ≤ w.heap.size) (hf : shProgram.fit 9223372036854775807 X) (hl0 : 0 ≤ left) (hl : left ≤ 1048576) :
  Calls Tryz.prog 45 #[.agg vs.toArray, .int .i64 left] w fun e w' => ∃ m, e = .returned (.int .i64 m) ∧ Left left (shProgram.cost X) m ∧ Below w.heap.size w w' := by
 obtain ⟨x0, x1⟩ := X
 have h0 := h
 obtain ⟨A0, c0, A1, c1, rfl, _⟩ := shProgram_R.1 h0
 exact szProgram_f x0 x1 A0 c0 A1 c1 lo hi left w h hhi hf hl0 hl
theorem toProgram_o (X : TyProgram) (vs : List Value) (lo hi : Nat) (w : World) (h : shProgram.R w lo hi vs X) (hhi : hi ≤ w.heap.size) (hf : shProgram.fit 1048576 X) :
  Calls Tryz.prog 63 #[.agg vs.toArray] w fun e w' => ∃ us : List Value, e = .returned (.agg us.toArray) ∧ shProgram.R w' w.heap.size w'.heap.size us X ∧ Below w.heap.size w w' := by
 obtain ⟨x0, x1⟩ := X
 have h0 := h
 obtain ⟨A0, c0, A1, c1, rfl, _⟩ := shProgram_R.1 h0
 refine (toProgram_f x0 x1 A0 c0 A1 c1 lo hi w h hhi hf).mono ?_
 rintro e w' ⟨B0, d0, B1, d1, rfl, ho, hb⟩
 exact ⟨_, rfl, ho.reads, hb⟩
theorem eqProgram_o (X : TyProgram) (vs us : List Value) (lo hi lo' hi' : Nat) (w : World) (h : shProgram.R w lo hi vs X) (h' : shProgram.R w lo' hi' us X) (hhi : hi ≤ w.heap.size) (hhi' : hi' ≤ w.heap.size) (hf : shProgram.fit 4294967296 X) :
  Calls Tryz.prog 85 #[.agg vs.toArray, .agg us.toArray] w fun e w' => e = .returned (.bool true) ∧ Below w.heap.size w w' := by
 obtain ⟨x0, x1⟩ := X
 have h0 := h; have h1 := h'
 obtain ⟨A0, c0, A1, c1, rfl, _⟩ := shProgram_R.1 h0
 obtain ⟨B0, d0, B1, d1, rfl, _⟩ := shProgram_R.1 h1
 exact eqProgram_f x0 x1 A0 c0 A1 c1 B0 d0 B1 d1 lo hi lo' hi' w h h' hhi hhi' hf
theorem sizeLTree : (Tryz.prog.info? 29).map (·.size) = some shTree.k := by kernel_rfl
theorem sizeITree : (Tryz.prog.info? 66).map (·.size) = some shTree.k := by kernel_rfl
theorem szTree_o (X : TyTree) (vs : List Value) (lo hi : Nat) (left : Int) (w : World) (h : shTree.R w lo hi vs X) (hhi : hi ≤ w.heap.size) (hf : shTree.fit 9223372036854775807 X) (hl0 : 0 ≤ left) (hl : left ≤ 1048576) :
  Calls Tryz.prog 17 #[.agg vs.toArray, .int .i64 left] w fun e w' => ∃ m, e = .returned (.int .i64 m) ∧ Left left (shTree.cost X) m ∧ Below w.heap.size w w' := by
 have h0 := h
 obtain ⟨A0, c0, rfl, _⟩ := shTree_R.1 h0
 exact szTree_f X A0 c0 lo hi left w h hhi hf hl0 hl
theorem toTree_o (X : TyTree) (vs : List Value) (lo hi : Nat) (w : World) (h : shTree.R w lo hi vs X) (hhi : hi ≤ w.heap.size) (hf : shTree.fit 1048576 X) :
  Calls Tryz.prog 25 #[.agg vs.toArray] w fun e w' => ∃ us : List Value, e = .returned (.agg us.toArray) ∧ shTree.R w' w.heap.size w'.heap.size us X ∧ Below w.heap.size w w' := by
 have h0 := h
 obtain ⟨A0, c0, rfl, _⟩ := shTree_R.1 h0
 refine (toTree_f X A0 c0 lo hi w h hhi hf).mono ?_
 rintro e w' ⟨B0, d0, rfl, ho, hb⟩
 exact ⟨_, rfl, ho.reads, hb⟩
theorem eqTree_o (X : TyTree) (vs us : List Value) (lo hi lo' hi' : Nat) (w : World) (h : shTree.R w lo hi vs X) (h' : shTree.R w lo' hi' us X) (hhi : hi ≤ w.heap.size) (hhi' : hi' ≤ w.heap.size) (hf : shTree.fit 4294967296 X) :
  Calls Tryz.prog 33 #[.agg vs.toArray, .agg us.toArray] w fun e w' => e = .returned (.bool true) ∧ Below w.heap.size w w' := by
 have h0 := h; have h1 := h'
 obtain ⟨A0, c0, rfl, _⟩ := shTree_R.1 h0
 obtain ⟨B0, d0, rfl, _⟩ := shTree_R.1 h1
 exact eqTree_f X A0 c0 B0 d0 lo hi lo' hi' w h h' hhi hhi' hf
theorem sizeLLocks : (Tryz.prog.info? 33).map (·.size) = some shLocks.k := by kernel_rfl
theorem sizeILocks : (Tryz.prog.info? 70).map (·.size) = some shLocks.k := by kernel_rfl
theorem szLocks_o (X : TyLocks) (vs : List Value) (lo hi : Nat) (left : Int) (w : World) (h : shLocks.R w lo hi vs X) (hhi : hi ≤ w.heap.size) (hf : shLocks.fit 9223372036854775807 X) (hl0 : 0 ≤ left) (hl : left ≤ 1048576) :
  Calls Tryz.prog 47 #[.agg vs.toArray, .int .i64 left] w fun e w' => ∃ m, e = .returned (.int .i64 m) ∧ Left left (shLocks.cost X) m ∧ Below w.heap.size w w' := by
 obtain ⟨x0, x1⟩ := X
 have h0 := h
 obtain ⟨A0, c0, A1, c1, rfl, _⟩ := shLocks_R.1 h0
 exact szLocks_f x0 x1 A0 c0 A1 c1 lo hi left w h hhi hf hl0 hl
theorem toLocks_o (X : TyLocks) (vs : List Value) (lo hi : Nat) (w : World) (h : shLocks.R w lo hi vs X) (hhi : hi ≤ w.heap.size) (hf : shLocks.fit 1048576 X) :
  Calls Tryz.prog 65 #[.agg vs.toArray] w fun e w' => ∃ us : List Value, e = .returned (.agg us.toArray) ∧ shLocks.R w' w.heap.size w'.heap.size us X ∧ Below w.heap.size w w' := by
 obtain ⟨x0, x1⟩ := X
 have h0 := h
 obtain ⟨A0, c0, A1, c1, rfl, _⟩ := shLocks_R.1 h0
 refine (toLocks_f x0 x1 A0 c0 A1 c1 lo hi w h hhi hf).mono ?_
 rintro e w' ⟨B0, d0, B1, d1, rfl, ho, hb⟩
 exact ⟨_, rfl, ho.reads, hb⟩
theorem eqLocks_o (X : TyLocks) (vs us : List Value) (lo hi lo' hi' : Nat) (w : World) (h : shLocks.R w lo hi vs X) (h' : shLocks.R w lo' hi' us X) (hhi : hi ≤ w.heap.size) (hhi' : hi' ≤ w.heap.size) (hf : shLocks.fit 4294967296 X) :
  Calls Tryz.prog 87 #[.agg vs.toArray, .agg us.toArray] w fun e w' => e = .returned (.bool true) ∧ Below w.heap.size w w' := by
 obtain ⟨x0, x1⟩ := X
 have h0 := h; have h1 := h'
 obtain ⟨A0, c0, A1, c1, rfl, _⟩ := shLocks_R.1 h0
 obtain ⟨B0, d0, B1, d1, rfl, _⟩ := shLocks_R.1 h1
 exact eqLocks_f x0 x1 A0 c0 A1 c1 B0 d0 B1 d1 lo hi lo' hi' w h h' hhi hhi' hf
theorem sizeLDisk : (Tryz.prog.info? 44).map (·.size) = some shDisk.k := by kernel_rfl
theorem sizeIDisk : (Tryz.prog.info? 80).map (·.size) = some shDisk.k := by kernel_rfl
theorem toDisk_o (X : TyDisk) (vs : List Value) (lo hi : Nat) (w : World) (h : shDisk.R w lo hi vs X) (hhi : hi ≤ w.heap.size) (hf : shDisk.fit 1048576 X) :
  Calls Tryz.prog 130 #[.agg vs.toArray] w fun e w' => ∃ us : List Value, e = .returned (.agg us.toArray) ∧ shDisk.R w' w.heap.size w'.heap.size us X ∧ Below w.heap.size w w' := by
 obtain ⟨x0, x1, x2⟩ := X
 have h0 := h
 obtain ⟨A1, c1, A2, c2, rfl, _⟩ := shDisk_R.1 h0
 refine (toDisk_f x0 x1 x2 A1 c1 A2 c2 lo hi w h hhi hf).mono ?_
 rintro e w' ⟨B1, d1, B2, d2, rfl, ho, hb⟩
 exact ⟨_, rfl, ho.reads, hb⟩
theorem sizeLTop : (Tryz.prog.info? 47).map (·.size) = some shTop.k := by kernel_rfl
theorem sizeITop : (Tryz.prog.info? 83).map (·.size) = some shTop.k := by kernel_rfl
theorem toTop_o (X : TyTop) (vs : List Value) (lo hi : Nat) (w : World) (h : shTop.R w lo hi vs X) (hhi : hi ≤ w.heap.size) (hf : shTop.fit 1048576 X) :
  Calls Tryz.prog 131 #[.agg vs.toArray] w fun e w' => ∃ us : List Value, e = .returned (.agg us.toArray) ∧ shTop.R w' w.heap.size w'.heap.size us X ∧ Below w.heap.size w w' := by
 obtain ⟨x0, x1, x2, x3⟩ := X
 have h0 := h
 obtain ⟨A3, c3, rfl, _⟩ := shTop_R.1 h0
 refine (toTop_f x0 x1 x2 x3 A3 c3 lo hi w h hhi hf).mono ?_
 rintro e w' ⟨B3, d3, rfl, ho, hb⟩
 exact ⟨_, rfl, ho.reads, hb⟩
theorem sizeLBtree : (Tryz.prog.info? 40).map (·.size) = some shBtree.k := by kernel_rfl
theorem sizeIBtree : (Tryz.prog.info? 77).map (·.size) = some shBtree.k := by kernel_rfl
theorem szBtree_o (X : TyBtree) (vs : List Value) (lo hi : Nat) (left : Int) (w : World) (h : shBtree.R w lo hi vs X) (hhi : hi ≤ w.heap.size) (hf : shBtree.fit 9223372036854775807 X) (hl0 : 0 ≤ left) (hl : left ≤ 1048576) :
  Calls Tryz.prog 49 #[.agg vs.toArray, .int .i64 left] w fun e w' => ∃ m, e = .returned (.int .i64 m) ∧ Left left (shBtree.cost X) m ∧ Below w.heap.size w w' := by
 obtain ⟨x0, x1⟩ := X
 have h0 := h
 obtain ⟨A1, c1, rfl, _⟩ := shBtree_R.1 h0
 exact szBtree_f x0 x1 A1 c1 lo hi left w h hhi hf hl0 hl
theorem toBtree_o (X : TyBtree) (vs : List Value) (lo hi : Nat) (w : World) (h : shBtree.R w lo hi vs X) (hhi : hi ≤ w.heap.size) (hf : shBtree.fit 1048576 X) :
  Calls Tryz.prog 67 #[.agg vs.toArray] w fun e w' => ∃ us : List Value, e = .returned (.agg us.toArray) ∧ shBtree.R w' w.heap.size w'.heap.size us X ∧ Below w.heap.size w w' := by
 obtain ⟨x0, x1⟩ := X
 have h0 := h
 obtain ⟨A1, c1, rfl, _⟩ := shBtree_R.1 h0
 refine (toBtree_f x0 x1 A1 c1 lo hi w h hhi hf).mono ?_
 rintro e w' ⟨B1, d1, rfl, ho, hb⟩
 exact ⟨_, rfl, ho.reads, hb⟩
theorem eqBtree_o (X : TyBtree) (vs us : List Value) (lo hi lo' hi' : Nat) (w : World) (h : shBtree.R w lo hi vs X) (h' : shBtree.R w lo' hi' us X) (hhi : hi ≤ w.heap.size) (hhi' : hi' ≤ w.heap.size) (hf : shBtree.fit 4294967296 X) :
  Calls Tryz.prog 89 #[.agg vs.toArray, .agg us.toArray] w fun e w' => e = .returned (.bool true) ∧ Below w.heap.size w w' := by
 obtain ⟨x0, x1⟩ := X
 have h0 := h; have h1 := h'
 obtain ⟨A1, c1, rfl, _⟩ := shBtree_R.1 h0
 obtain ⟨B1, d1, rfl, _⟩ := shBtree_R.1 h1
 exact eqBtree_f x0 x1 A1 c1 B1 d1 lo hi lo' hi' w h h' hhi hhi' hf
theorem sizeLJournal : (Tryz.prog.info? 52).map (·.size) = some shJournal.k := by kernel_rfl
theorem sizeIJournal : (Tryz.prog.info? 87).map (·.size) = some shJournal.k := by kernel_rfl
theorem szJournal_o (X : TyJournal) (vs : List Value) (lo hi : Nat) (left : Int) (w : World) (h : shJournal.R w lo hi vs X) (hhi : hi ≤ w.heap.size) (hf : shJournal.fit 9223372036854775807 X) (hl0 : 0 ≤ left) (hl : left ≤ 1048576) :
  Calls Tryz.prog 51 #[.agg vs.toArray, .int .i64 left] w fun e w' => ∃ m, e = .returned (.int .i64 m) ∧ Left left (shJournal.cost X) m ∧ Below w.heap.size w w' := by
 obtain ⟨⟨x0, x1, x2⟩, x3, x4, x5, x6⟩ := X
 have h0 := h
 obtain ⟨A1, c1, A2, c2, rfl, _⟩ := shJournal_R.1 h0
 exact szJournal_f x0 x1 x2 x3 x4 x5 x6 A1 c1 A2 c2 lo hi left w h hhi hf hl0 hl
theorem toJournal_o (X : TyJournal) (vs : List Value) (lo hi : Nat) (w : World) (h : shJournal.R w lo hi vs X) (hhi : hi ≤ w.heap.size) (hf : shJournal.fit 1048576 X) :
  Calls Tryz.prog 69 #[.agg vs.toArray] w fun e w' => ∃ us : List Value, e = .returned (.agg us.toArray) ∧ shJournal.R w' w.heap.size w'.heap.size us X ∧ Below w.heap.size w w' := by
 obtain ⟨⟨x0, x1, x2⟩, x3, x4, x5, x6⟩ := X
 have h0 := h
 obtain ⟨A1, c1, A2, c2, rfl, _⟩ := shJournal_R.1 h0
 refine (toJournal_f x0 x1 x2 x3 x4 x5 x6 A1 c1 A2 c2 lo hi w h hhi hf).mono ?_
 rintro e w' ⟨B1, d1, B2, d2, rfl, ho, hb⟩
 exact ⟨_, rfl, ho.reads, hb⟩
theorem eqJournal_o (X : TyJournal) (vs us : List Value) (lo hi lo' hi' : Nat) (w : World) (h : shJournal.R w lo hi vs X) (h' : shJournal.R w lo' hi' us X) (hhi : hi ≤ w.heap.size) (hhi' : hi' ≤ w.heap.size) (hf : shJournal.fit 4294967296 X) :
  Calls Tryz.prog 91 #[.agg vs.toArray, .agg us.toArray] w fun e w' => e = .returned (.bool true) ∧ Below w.heap.size w w' := by
 obtain ⟨⟨x0, x1, x2⟩, x3, x4, x5, x6⟩ := X
 have h0 := h; have h1 := h'
 obtain ⟨A1, c1, A2, c2, rfl, _⟩ := shJournal_R.1 h0
 obtain ⟨B1, d1, B2, d2, rfl, _⟩ := shJournal_R.1 h1
 exact eqJournal_f x0 x1 x2 x3 x4 x5 x6 A1 c1 A2 c2 B1 d1 B2 d2 lo hi lo' hi' w h h' hhi hhi' hf
theorem sizeLCache : (Tryz.prog.info? 50).map (·.size) = some shCache.k := by kernel_rfl
theorem sizeICache : (Tryz.prog.info? 85).map (·.size) = some shCache.k := by kernel_rfl
theorem szCache_o (X : TyCache) (vs : List Value) (lo hi : Nat) (left : Int) (w : World) (h : shCache.R w lo hi vs X) (hhi : hi ≤ w.heap.size) (hf : shCache.fit 9223372036854775807 X) (hl0 : 0 ≤ left) (hl : left ≤ 1048576) :
  Calls Tryz.prog 50 #[.agg vs.toArray, .int .i64 left] w fun e w' => ∃ m, e = .returned (.int .i64 m) ∧ Left left (shCache.cost X) m ∧ Below w.heap.size w w' := by
 obtain ⟨⟨x0, x1, x2⟩, ⟨x3, x4, x5, x6⟩, ⟨x7, x8, x9, x10⟩, x11, x12⟩ := X
 have h0 := h
 obtain ⟨A1, c1, A2, c2, A6, c6, A10, c10, A11, c11, A12, c12, rfl, _⟩ := shCache_R.1 h0
 exact szCache_f x0 x1 x2 x3 x4 x5 x6 x7 x8 x9 x10 x11 x12 A1 c1 A2 c2 A6 c6 A10 c10 A11 c11 A12 c12 lo hi left w h hhi hf hl0 hl
theorem eqCache_o (X : TyCache) (vs us : List Value) (lo hi lo' hi' : Nat) (w : World) (h : shCache.R w lo hi vs X) (h' : shCache.R w lo' hi' us X) (hhi : hi ≤ w.heap.size) (hhi' : hi' ≤ w.heap.size) (hf : shCache.fit 4294967296 X) :
  Calls Tryz.prog 90 #[.agg vs.toArray, .agg us.toArray] w fun e w' => e = .returned (.bool true) ∧ Below w.heap.size w w' := by
 obtain ⟨⟨x0, x1, x2⟩, ⟨x3, x4, x5, x6⟩, ⟨x7, x8, x9, x10⟩, x11, x12⟩ := X
 have h0 := h; have h1 := h'
 obtain ⟨A1, c1, A2, c2, A6, c6, A10, c10, A11, c11, A12, c12, rfl, _⟩ := shCache_R.1 h0
 obtain ⟨B1, d1, B2, d2, B6, d6, B10, d10, B11, d11, B12, d12, rfl, _⟩ := shCache_R.1 h1
 exact eqCache_f x0 x1 x2 x3 x4 x5 x6 x7 x8 x9 x10 x11 x12 A1 c1 A2 c2 A6 c6 A10 c10 A11 c11 A12 c12 B1 d1 B2 d2 B6 d6 B10 d10 B11 d11 B12 d12 lo hi lo' hi' w h h' hhi hhi' hf
end Go.Proofs.YtgnmollbnopigaaGreat
/- Image, Parcel, Replica: shapes and the laws' walks (sz). Printed by gen_fam.py. -/
namespace Go.Proofs.YtgnmollbnopigaaGreat
open Go.RowKit
theorem szImage_f (x0 : ByteArray) (x1 : List ByteArray) (x2 : Bool) (x3 : ByteArray) (x4 : Bool) (x5 : ByteArray) (A1 : Option Addr) (c1 : Nat) (lo hi : Nat) (left : Int) (w : World) (h : shImage.R w lo hi [.string x0, .slice A1 x1.length c1, .bool x2, .string x3, .bool x4, .string x5] (x0, x1, x2, x3, x4, x5)) (hhi : hi ≤ w.heap.size) (hf : shImage.fit 9223372036854775807 (x0, x1, x2, x3, x4, x5)) (hl0 : 0 ≤ left) (hl : left ≤ 1048576) :
  Calls Tryz.prog 246 #[.agg #[.string x0, .slice A1 x1.length c1, .bool x2, .string x3, .bool x4, .string x5], .int .i64 left] w fun e w' => ∃ m, e = .returned (.int .i64 m) ∧ Left left (shImage.cost (x0, x1, x2, x3, x4, x5)) m ∧ Below w.heap.size w w' := by
 rw [shImage_cost]
 rw [shImage_fit] at hf
 obtain ⟨ft0, ft1, ft2, ft3, ft4, ft5⟩ := hf
 have R0 := ((Stand.nil w).add lo hi (fun W => shImage.R W lo hi [.string x0, .slice A1 x1.length c1, .bool x2, .string x3, .bool x4, .string x5] (x0, x1, x2, x3, x4, x5)) (fun _ _ hk h => shImage.R_keep h hk) hhi h).box 366 #[.string x0, .slice A1 x1.length c1, .bool x2, .string x3, .bool x4, .string x5]
 have HR0 := Lib.hid R0
 clear R0 h
 go_enter Tryz.func246, Tryz.ntmps246
 by_cases g0 : left - (x0.size : Int) < 0
 ·go_wp2_with fail
  go_ret
  exact ⟨_, rfl, .inl rfl, HR0.out.1⟩
 go_wp2_with fail
 refine (szStringS_f A1 c1 x1 lo hi _ _ (shImage_f1 (HR0.out.get 1 rfl)) (HR0.out.le 1 rfl) ft1 (by omega) (by omega)).mono ?_
 rintro e1 w1 ⟨m1, rfl, hm1, hb1⟩
 have HR1 := Lib.hid (HR0.out.below hb1)
 have b1 := (HR1.out.get 0 rfl).cell
 clear hb1 HR0
 rcases hm1 with rfl | ⟨hp1, hm1⟩
 ·go_wp2_with fail
  go_ret
  exact ⟨_, rfl, .inl rfl, HR1.out.1⟩
 have n1 : ¬ (m1 < 0) := by omega
 have u1 : m1 ≤ 1048576 := by omega
 have HM1 := Lib.hid hm1; clear hm1
 by_cases g3 : m1 - (x3.size : Int) < 0
 ·go_wp2_with fail
  go_ret
  exact ⟨_, rfl, .inl rfl, HR1.out.1⟩
 by_cases g5 : m1 - (x3.size : Int) - (x5.size : Int) < 0
 ·go_wp2_with fail
  go_ret
  exact ⟨_, rfl, .inl rfl, HR1.out.1⟩
 go_wp2_with fail
 go_ret
 refine ⟨_, rfl, .inr ⟨by omega, ?_⟩, HR1.out.1⟩
 have := HM1.out
 omega
theorem szImageS_f (A : Option Addr) (c : Nat) (xs : List TyImage) (lo hi : Nat) (left : Int) (w : World) (h : (Sh.row 284 shImage).R w lo hi [.slice A xs.length c] xs) (hhi : hi ≤ w.heap.size) (hf : (Sh.row 284 shImage).fit 9223372036854775807 xs) (hl0 : 0 ≤ left) (hl : left ≤ 1048576) :
  Calls Tryz.prog 212 #[.slice A xs.length c, .int .i64 left] w fun e w' => ∃ m, e = .returned (.int .i64 m) ∧ Left left ((Sh.row 284 shImage).cost xs) m ∧ Below w.heap.size w w' := by
 have hn := hf.1
 have HA := Lib.hid h; have HF := Lib.hid hf.2
 clear h hf
 go_enter Tryz.func212, Tryz.ntmps212
 by_cases g0 : left - (xs.length : Int) < 0
 ·go_wp2_with fail
  go_ret
  exact ⟨_, rfl, .inl rfl, Below.refl _ _⟩
 go_wp2_with fail
 go_loopw [1, 5] (fun l i wr => ∃ (k : Nat) (m : Int), k ≤ xs.length ∧ i = .int .i64 k ∧ l = .int .i64 m ∧ 0 ≤ m ∧ m + xs.length + costTo shImage k xs = left ∧ Below w.heap.size w wr) (fun _ i _ => xs.length - (intOf i).toNat)
 case atStart => exact ⟨0, _, Nat.zero_le _, rfl, rfl, by omega, by rw [costTo_zero]; omega, Below.refl _ _⟩
 case round =>
  obtain ⟨k, m, hk, rfl, rfl, hm0, hm, hb⟩ := hrel
  have HM := Lib.hid hm
  have hml : m ≤ 1048576 := by omega
  clear hm
  by_cases hlt : k < xs.length
  ·obtain ⟨-, b, off, rfl, hb1, hb2, A1, c1, e100, e101, e102, e103, e104, e105, hX⟩ := shImage_at ((Sh.row 284 shImage).R_below HA.out hb hhi) hlt
   have HS := Lib.hid (costTo_succ shImage hlt)
   have HX := Lib.hid (HF.out _ (getD_in (d := shImage.d) hlt))
   generalize xs.getD k shImage.d = X at *
   obtain ⟨x0, x1, x2, x3, x4, x5⟩ := X
   try dsimp only at e100 e101 e102 e103 e104 e105
   have HB := Lib.hid hb; have HR := Lib.hid hX
   have hsz := hb.size
   clear hb hX
   go_wp2_with fail
   refine (szImage_f x0 x1 x2 x3 x4 x5 A1 c1 lo hi _ _ HR.out (by omega) HX.out hm0 hml).mono ?_
   rintro e5 w5 ⟨m5, rfl, hm5, hb5⟩
   have HB5 := Lib.hid (HB.out.trans (hb5.mono hsz))
   clear hb5 e100 e101 e102 e103 e104 e105
   rcases hm5 with rfl | ⟨hm50, hm5⟩
   ·go_wp2_with fail
    go_ret
    exact ⟨_, rfl, .inl rfl, HB5.out⟩
   have n5 : ¬ (m5 < 0) := by omega
   have HM5 := Lib.hid hm5
   clear hm5
   go_wp2_with fail
   go_roundw
   case rel => exact ⟨k + 1, m5, by omega, by go_num, rfl, hm50, by have := HM.out; have := HM5.out; have := HS.out; omega, HB5.out⟩
   case measure => simp [intOf]; omega
  ·obtain rfl : k = xs.length := by omega
   have HB := Lib.hid hb; clear hb
   go_wp2_with fail
   go_ret
   refine ⟨_, rfl, .inr ⟨hm0, ?_⟩, HB.out⟩
   have := HM.out
   have e1 := costTo_all shImage xs
   show m + (costAll shImage xs : Int) = left
   omega
theorem szParcel_f (x0 : Int) (x1 : List TyImage) (A1 : Option Addr) (c1 : Nat) (lo hi : Nat) (left : Int) (w : World) (h : shParcel.R w lo hi [.int .i64 x0, .slice A1 x1.length c1] (x0, x1)) (hhi : hi ≤ w.heap.size) (hf : shParcel.fit 9223372036854775807 (x0, x1)) (hl0 : 0 ≤ left) (hl : left ≤ 1048576) :
  Calls Tryz.prog 169 #[.agg #[.int .i64 x0, .slice A1 x1.length c1], .int .i64 left] w fun e w' => ∃ m, e = .returned (.int .i64 m) ∧ Left left (shParcel.cost (x0, x1)) m ∧ Below w.heap.size w w' := by
 rw [shParcel_cost]
 rw [shParcel_fit] at hf
 obtain ⟨ft0, ft1⟩ := hf
 have R0 := ((Stand.nil w).add lo hi (fun W => shParcel.R W lo hi [.int .i64 x0, .slice A1 x1.length c1] (x0, x1)) (fun _ _ hk h => shParcel.R_keep h hk) hhi h).box 282 #[.int .i64 x0, .slice A1 x1.length c1]
 have HR0 := Lib.hid R0
 clear R0 h
 go_enter Tryz.func169, Tryz.ntmps169
 go_wp2_with fail
 refine (szImageS_f A1 c1 x1 lo hi _ _ (shParcel_f1 (HR0.out.get 1 rfl)) (HR0.out.le 1 rfl) ft1 (by omega) (by omega)).mono ?_
 rintro e1 w1 ⟨m1, rfl, hm1, hb1⟩
 have HR1 := Lib.hid (HR0.out.below hb1)
 have b1 := (HR1.out.get 0 rfl).cell
 clear hb1 HR0
 rcases hm1 with rfl | ⟨hp1, hm1⟩
 ·go_wp2_with fail
  go_ret
  exact ⟨_, rfl, .inl rfl, HR1.out.1⟩
 have n1 : ¬ (m1 < 0) := by omega
 have u1 : m1 ≤ 1048576 := by omega
 have HM1 := Lib.hid hm1; clear hm1
 go_wp2_with fail
 go_ret
 refine ⟨_, rfl, .inr ⟨by omega, ?_⟩, HR1.out.1⟩
 have := HM1.out
 omega
theorem szParcelS_f (A : Option Addr) (c : Nat) (xs : List TyParcel) (lo hi : Nat) (left : Int) (w : World) (h : (Sh.row 187 shParcel).R w lo hi [.slice A xs.length c] xs) (hhi : hi ≤ w.heap.size) (hf : (Sh.row 187 shParcel).fit 9223372036854775807 xs) (hl0 : 0 ≤ left) (hl : left ≤ 1048576) :
  Calls Tryz.prog 94 #[.slice A xs.length c, .int .i64 left] w fun e w' => ∃ m, e = .returned (.int .i64 m) ∧ Left left ((Sh.row 187 shParcel).cost xs) m ∧ Below w.heap.size w w' := by
 have hn := hf.1
 have HA := Lib.hid h; have HF := Lib.hid hf.2
 clear h hf
 go_enter Tryz.func94, Tryz.ntmps94
 by_cases g0 : left - (xs.length : Int) < 0
 ·go_wp2_with fail
  go_ret
  exact ⟨_, rfl, .inl rfl, Below.refl _ _⟩
 go_wp2_with fail
 go_loopw [1, 5] (fun l i wr => ∃ (k : Nat) (m : Int), k ≤ xs.length ∧ i = .int .i64 k ∧ l = .int .i64 m ∧ 0 ≤ m ∧ m + xs.length + costTo shParcel k xs = left ∧ Below w.heap.size w wr) (fun _ i _ => xs.length - (intOf i).toNat)
 case atStart => exact ⟨0, _, Nat.zero_le _, rfl, rfl, by omega, by rw [costTo_zero]; omega, Below.refl _ _⟩
 case round =>
  obtain ⟨k, m, hk, rfl, rfl, hm0, hm, hb⟩ := hrel
  have HM := Lib.hid hm
  have hml : m ≤ 1048576 := by omega
  clear hm
  by_cases hlt : k < xs.length
  ·obtain ⟨-, b, off, rfl, hb1, hb2, A1, c1, e100, e101, hX⟩ := shParcel_at ((Sh.row 187 shParcel).R_below HA.out hb hhi) hlt
   have HS := Lib.hid (costTo_succ shParcel hlt)
   have HX := Lib.hid (HF.out _ (getD_in (d := shParcel.d) hlt))
   generalize xs.getD k shParcel.d = X at *
   obtain ⟨x0, x1⟩ := X
   try dsimp only at e100 e101
   have HB := Lib.hid hb; have HR := Lib.hid hX
   have hsz := hb.size
   clear hb hX
   go_wp2_with fail
   refine (szParcel_f x0 x1 A1 c1 lo hi _ _ HR.out (by omega) HX.out hm0 hml).mono ?_
   rintro e5 w5 ⟨m5, rfl, hm5, hb5⟩
   have HB5 := Lib.hid (HB.out.trans (hb5.mono hsz))
   clear hb5 e100 e101
   rcases hm5 with rfl | ⟨hm50, hm5⟩
   ·go_wp2_with fail
    go_ret
    exact ⟨_, rfl, .inl rfl, HB5.out⟩
   have n5 : ¬ (m5 < 0) := by omega
   have HM5 := Lib.hid hm5
   clear hm5
   go_wp2_with fail
   go_roundw
   case rel => exact ⟨k + 1, m5, by omega, by go_num, rfl, hm50, by have := HM.out; have := HM5.out; have := HS.out; omega, HB5.out⟩
   case measure => simp [intOf]; omega
  ·obtain rfl : k = xs.length := by omega
   have HB := Lib.hid hb; clear hb
   go_wp2_with fail
   go_ret
   refine ⟨_, rfl, .inr ⟨hm0, ?_⟩, HB.out⟩
   have := HM.out
   have e1 := costTo_all shParcel xs
   show m + (costAll shParcel xs : Int) = left
   omega
theorem szReplica_f (x0 : List TyNode) (x1 : Int) (x2 : List TyParcel) (A0 : Option Addr) (c0 : Nat) (A2 : Option Addr) (c2 : Nat) (lo hi : Nat) (left : Int) (w : World) (h : shReplica.R w lo hi [.slice A0 x0.length c0, .int .i64 x1, .slice A2 x2.length c2] (x0, x1, x2)) (hhi : hi ≤ w.heap.size) (hf : shReplica.fit 9223372036854775807 (x0, x1, x2)) (hl0 : 0 ≤ left) (hl : left ≤ 1048576) :
  Calls Tryz.prog 35 #[.agg #[.slice A0 x0.length c0, .int .i64 x1, .slice A2 x2.length c2], .int .i64 left] w fun e w' => ∃ m, e = .returned (.int .i64 m) ∧ Left left (shReplica.cost (x0, x1, x2)) m ∧ Below w.heap.size w w' := by
 rw [shReplica_cost]
 rw [shReplica_fit] at hf
 obtain ⟨ft0, ft1, ft2⟩ := hf
 have R0 := ((Stand.nil w).add lo hi (fun W => shReplica.R W lo hi [.slice A0 x0.length c0, .int .i64 x1, .slice A2 x2.length c2] (x0, x1, x2)) (fun _ _ hk h => shReplica.R_keep h hk) hhi h).box 96 #[.slice A0 x0.length c0, .int .i64 x1, .slice A2 x2.length c2]
 have HR0 := Lib.hid R0
 clear R0 h
 go_enter Tryz.func35, Tryz.ntmps35
 go_wp2_with fail
 refine (szTree_f x0 A0 c0 lo hi _ _ (shReplica_f0 (HR0.out.get 1 rfl)) (HR0.out.le 1 rfl) ft0 (by omega) (by omega)).mono ?_
 rintro e0 w0 ⟨m0, rfl, hm0, hb0⟩
 have HR1 := Lib.hid (HR0.out.below hb0)
 have b0 := (HR1.out.get 0 rfl).cell
 clear hb0 HR0
 rcases hm0 with rfl | ⟨hp0, hm0⟩
 ·go_wp2_with fail
  go_ret
  exact ⟨_, rfl, .inl rfl, HR1.out.1⟩
 have n0 : ¬ (m0 < 0) := by omega
 have u0 : m0 ≤ 1048576 := by omega
 have HM0 := Lib.hid hm0; clear hm0
 go_wp2_with fail
 refine (szParcelS_f A2 c2 x2 lo hi _ _ (shReplica_f2 (HR1.out.get 1 rfl)) (HR1.out.le 1 rfl) ft2 (by omega) (by omega)).mono ?_
 rintro e2 w2 ⟨m2, rfl, hm2, hb2⟩
 have HR2 := Lib.hid (HR1.out.below hb2)
 have b2 := (HR2.out.get 0 rfl).cell
 clear hb2 HR1
 rcases hm2 with rfl | ⟨hp2, hm2⟩
 ·go_wp2_with fail
  go_ret
  exact ⟨_, rfl, .inl rfl, HR2.out.1⟩
 have n2 : ¬ (m2 < 0) := by omega
 have u2 : m2 ≤ 1048576 := by omega
 have HM2 := Lib.hid hm2; clear hm2
 go_wp2_with fail
 go_ret
 refine ⟨_, rfl, .inr ⟨by omega, ?_⟩, HR2.out.1⟩
 have := HM0.out
 have := HM2.out
 omega
end Go.Proofs.YtgnmollbnopigaaGreat
