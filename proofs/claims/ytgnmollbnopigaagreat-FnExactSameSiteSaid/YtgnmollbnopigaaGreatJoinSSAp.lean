/- Both sides' comparisons: what they answer, plainly. -/
import Derived.Test.YtgnmollbnopigaaGreatJoinSSAi
import Derived.Test.YtgnmollbnopigaaGreatJoinSSAk
import Derived.Test.YtgnmollbnopigaaGreatJoinSSAl
import Derived.Test.YtgnmollbnopigaaGreatJoinSSAh
import Derived.Test.YtgnmollbnopigaaGreatJoinSSAm
import Derived.Test.YtgnmollbnopigaaGreatJoinSSAo
set_option maxHeartbeats 16000000
set_option maxRecDepth 100000
namespace Go.Proofs.YtgnmollbnopigaaGreat
open Go.RowKit
section
variable {α : Type} {d : α} {xs ys : List α} {k : Nat}
theorem take_step (h : xs.take k = ys.take k) (hk : k < xs.length) (hl : xs.length = ys.length) (he : xs.getD k d = ys.getD k d) : xs.take (k + 1) = ys.take (k + 1) := by
 have h2 := List.take_succ_eq_append_getElem (l := ys) (i := k) (by omega)
 rw [List.take_succ_eq_append_getElem hk, h2, h]
 rw [List.getD_eq_getElem?_getD, List.getD_eq_getElem?_getD, List.getElem?_eq_getElem hk, List.getElem?_eq_getElem (by omega)] at he
 have h3 : xs[k] = ys[k] := by simpa using he
 rw [h3]
theorem take_all (h : xs.take xs.length = ys.take xs.length) (hl : xs.length = ys.length) : xs = ys := by
 rwa [List.take_length, hl, List.take_length] at h
theorem ne_of_len (h : ¬ xs.length = ys.length) : xs ≠ ys := fun e => h (by rw [e])
theorem ne_at (he : ¬ xs.getD k d = ys.getD k d) : xs ≠ ys := fun e => he (by rw [e])
end
noncomputable def sameB {α : Type} (x y : α) : Bool := @decide (x = y) (Classical.propDecidable _)
def SmS {α : Type} (s : Sh α) (f : Nat) : Prop := ∀ (X Y : α) (vs us : List Value) (lo hi lo' hi' : Nat) (w : World) (_ : s.R w lo hi vs X) (_ : s.R w lo' hi' us Y) (_ : hi ≤ w.heap.size) (_ : hi' ≤ w.heap.size) (_ : s.fit 4294967296 X) (_ : s.fit 4294967296 Y),
  Calls Tryz.prog f #[.agg vs.toArray, .agg us.toArray] w fun e w' => e = .returned (.bool (sameB X Y)) ∧ Below w.heap.size w w'
def SmR {α : Type} (t : TypeId) (s : Sh α) (f : Nat) : Prop := ∀ (A B : Option Addr) (c d : Nat) (xs ys : List α) (lo hi lo' hi' : Nat) (w : World) (_ : (Sh.row t s).R w lo hi [.slice A xs.length c] xs) (_ : (Sh.row t s).R w lo' hi' [.slice B ys.length d] ys) (_ : hi ≤ w.heap.size) (_ : hi' ≤ w.heap.size) (_ : (Sh.row t s).fit 4294967296 xs) (_ : (Sh.row t s).fit 4294967296 ys),
  Calls Tryz.prog f #[.slice A xs.length c, .slice B ys.length d] w fun e w' => e = .returned (.bool (sameB xs ys)) ∧ Below w.heap.size w w'
def SmF {α : Type} (t : TypeId) (s : Sh α) (f g : Nat) : Prop := ∀ (A B : Option Addr) (c d : Nat) (xs ys : List α) (lo hi lo' hi' : Nat) (w : World) (_ : (Sh.row t s).R w lo hi [.slice A xs.length c] xs) (_ : (Sh.row t s).R w lo' hi' [.slice B ys.length d] ys) (_ : hi ≤ w.heap.size) (_ : hi' ≤ w.heap.size) (_ : (Sh.row t s).fit 4294967296 xs) (_ : (Sh.row t s).fit 4294967296 ys),
  Calls Tryz.prog f #[.slice A xs.length c, .slice B ys.length d, .func (.func g) #[] #[]] w fun e w' => e = .returned (.bool (sameB xs ys)) ∧ Below w.heap.size w w'
theorem same_f {α : Type} {x y : α} (h : ¬ x = y) : sameB x y = false := @decide_eq_false _ (Classical.propDecidable _) h
theorem same_t {α : Type} {x y : α} (h : x = y) : sameB x y = true := @decide_eq_true _ (Classical.propDecidable _) h
theorem nf {α β : Type} (f : α → β) {x y : α} {a : Bool} (h : Hid (a = sameB x y)) (hne : ¬ f x = f y) : Hid (a = false) := Lib.hid (h.out.trans (same_f fun e => hne (congrArg f e)))
theorem str_ne {x y : ByteArray} (h : ¬ x = y) : (x.toList == y.toList) = false := by
 rw [beq_eq_false_iff_ne]
 exact fun e => h (bytes_toList_inj.1 e)
end Go.Proofs.YtgnmollbnopigaaGreat
/- Job, World, Base, Site: walks field by field (sh). Printed by gen_big.py. -/
namespace Go.Proofs.YtgnmollbnopigaaGreat
open Go.RowKit
abbrev TyJob := Int × TyMachine × TyTrans × TyMachine × ByteArray × (List ByteArray) × (List TyLock) × Int × (List ByteArray) × ByteArray
def shJob : Sh TyJob := Sh.prod shI (Sh.prod shMachine (Sh.prod shTrans (Sh.prod shMachine (Sh.prod shS (Sh.prod (Sh.row 9 shS) (Sh.prod (Sh.row 231 shLock) (Sh.prod shI (Sh.prod (Sh.row 9 shS) (shS)))))))))
theorem sizeLJob : (Tryz.prog.info? 216).map (·.size) = some shJob.k := by kernel_rfl
theorem sizeIJob : (Tryz.prog.info? 159).map (·.size) = some shJob.k := by kernel_rfl
abbrev TyWorld := Int × TyProgram × (List TyTrigger) × TyTree × TyLocks × (List TyJob) × Int × (List TyBatch)
def shWorld : Sh TyWorld := Sh.prod shI (Sh.prod shProgram (Sh.prod (Sh.row 229 shTrigger) (Sh.prod shTree (Sh.prod shLocks (Sh.prod (Sh.row 159 shJob) (Sh.prod shI ((Sh.row 167 shBatch))))))))
theorem sizeLWorld : (Tryz.prog.info? 37).map (·.size) = some shWorld.k := by kernel_rfl
theorem sizeIWorld : (Tryz.prog.info? 74).map (·.size) = some shWorld.k := by kernel_rfl
abbrev TyBase := TyBtree × TyCache × TyJournal × Int × Int
def shBase : Sh TyBase := Sh.prod shBtree (Sh.prod shCache (Sh.prod shJournal (Sh.prod shI (shI))))
theorem sizeLBase : (Tryz.prog.info? 54).map (·.size) = some shBase.k := by kernel_rfl
theorem sizeIBase : (Tryz.prog.info? 89).map (·.size) = some shBase.k := by kernel_rfl
abbrev TySite := TyWorld × TyBase × TyTree × Int × (List TyBatch)
def shSite : Sh TySite := Sh.prod shWorld (Sh.prod shBase (Sh.prod shTree (Sh.prod shI ((Sh.row 167 shBatch)))))
theorem sizeLSite : (Tryz.prog.info? 56).map (·.size) = some shSite.k := by kernel_rfl
theorem sizeISite : (Tryz.prog.info? 91).map (·.size) = some shSite.k := by kernel_rfl
end Go.Proofs.YtgnmollbnopigaaGreat
/- Machine: shapes and the laws' walks (sz). Printed by gen_fam.py. -/
namespace Go.Proofs.YtgnmollbnopigaaGreat
open Go.RowKit
theorem szMachine_f (x0 : Int) (x1 : Int) (x2 : List ByteArray) (x3 : List TyRef) (x4 : List TyGiven) (x5 : List TyLoop) (x6 : List TyFrame) (x7 : Int) (x8 : List TyBind) (x9 : List TyCell) (x10 : List TyLevel) (x11 : Bool) (x12 : Bool) (x13 : Bool) (x14 : ByteArray) (x15 : List ByteArray) (x16 : Int) (x17 : Int) (x18 : Int) (x19 : Int) (x20 : ByteArray) (A2 : Option Addr) (c2 : Nat) (A3 : Option Addr) (c3 : Nat) (A4 : Option Addr) (c4 : Nat) (A5 : Option Addr) (c5 : Nat) (A6 : Option Addr) (c6 : Nat) (A8 : Option Addr) (c8 : Nat) (A9 : Option Addr) (c9 : Nat) (A10 : Option Addr) (c10 : Nat) (A15 : Option Addr) (c15 : Nat) (lo hi : Nat) (left : Int) (w : World) (h : shMachine.R w lo hi [.int .i64 x0, .int .i64 x1, .slice A2 x2.length c2, .slice A3 x3.length c3, .slice A4 x4.length c4, .slice A5 x5.length c5, .slice A6 x6.length c6, .int .i64 x7, .slice A8 x8.length c8, .slice A9 x9.length c9, .slice A10 x10.length c10, .bool x11, .bool x12, .bool x13, .string x14, .slice A15 x15.length c15, .int .i64 x16, .int .i64 x17, .int .i64 x18, .int .i64 x19, .string x20] (x0, x1, x2, x3, x4, x5, x6, (x7, x8, x9, x10), x11, x12, (x13, x14, x15), x16, x17, x18, x19, x20)) (hhi : hi ≤ w.heap.size) (hf : shMachine.fit 9223372036854775807 (x0, x1, x2, x3, x4, x5, x6, (x7, x8, x9, x10), x11, x12, (x13, x14, x15), x16, x17, x18, x19, x20)) (hl0 : 0 ≤ left) (hl : left ≤ 1048576) :
  Calls Tryz.prog 178 #[.agg #[.int .i64 x0, .int .i64 x1, .slice A2 x2.length c2, .slice A3 x3.length c3, .slice A4 x4.length c4, .slice A5 x5.length c5, .slice A6 x6.length c6, .int .i64 x7, .slice A8 x8.length c8, .slice A9 x9.length c9, .slice A10 x10.length c10, .bool x11, .bool x12, .bool x13, .string x14, .slice A15 x15.length c15, .int .i64 x16, .int .i64 x17, .int .i64 x18, .int .i64 x19, .string x20], .int .i64 left] w fun e w' => ∃ m, e = .returned (.int .i64 m) ∧ Left left (shMachine.cost (x0, x1, x2, x3, x4, x5, x6, (x7, x8, x9, x10), x11, x12, (x13, x14, x15), x16, x17, x18, x19, x20)) m ∧ Below w.heap.size w w' := by
 rw [shMachine_cost]
 rw [shMachine_fit] at hf
 obtain ⟨ft0, ft1, ft2, ft3, ft4, ft5, ft6, ft7, ft11, ft12, ft13, ft16, ft17, ft18, ft19, ft20⟩ := hf
 have R0 := ((Stand.nil w).add lo hi (fun W => shMachine.R W lo hi [.int .i64 x0, .int .i64 x1, .slice A2 x2.length c2, .slice A3 x3.length c3, .slice A4 x4.length c4, .slice A5 x5.length c5, .slice A6 x6.length c6, .int .i64 x7, .slice A8 x8.length c8, .slice A9 x9.length c9, .slice A10 x10.length c10, .bool x11, .bool x12, .bool x13, .string x14, .slice A15 x15.length c15, .int .i64 x16, .int .i64 x17, .int .i64 x18, .int .i64 x19, .string x20] (x0, x1, x2, x3, x4, x5, x6, (x7, x8, x9, x10), x11, x12, (x13, x14, x15), x16, x17, x18, x19, x20)) (fun _ _ hk h => shMachine.R_keep h hk) hhi h).box 212 #[.int .i64 x0, .int .i64 x1, .slice A2 x2.length c2, .slice A3 x3.length c3, .slice A4 x4.length c4, .slice A5 x5.length c5, .slice A6 x6.length c6, .int .i64 x7, .slice A8 x8.length c8, .slice A9 x9.length c9, .slice A10 x10.length c10, .bool x11, .bool x12, .bool x13, .string x14, .slice A15 x15.length c15, .int .i64 x16, .int .i64 x17, .int .i64 x18, .int .i64 x19, .string x20]
 have HR0 := Lib.hid R0
 clear R0 h
 go_enter Tryz.func178, Tryz.ntmps178
 go_wp2_with fail
 refine (szStringS_f A2 c2 x2 lo hi _ _ (shMachine_f2 (HR0.out.get 1 rfl)) (HR0.out.le 1 rfl) ft2 (by omega) (by omega)).mono ?_
 rintro e2 w2 ⟨m2, rfl, hm2, hb2⟩
 have HR1 := Lib.hid (HR0.out.below hb2)
 have b2 := (HR1.out.get 0 rfl).cell
 clear hb2 HR0
 rcases hm2 with rfl | ⟨hp2, hm2⟩
 ·go_wp2_with fail
  go_ret
  exact ⟨_, rfl, .inl rfl, HR1.out.1⟩
 have n2 : ¬ (m2 < 0) := by omega
 have u2 : m2 ≤ 1048576 := by omega
 have HM2 := Lib.hid hm2; clear hm2
 go_wp2_with fail
 refine (szRefS_f A3 c3 x3 lo hi _ _ (shMachine_f3 (HR1.out.get 1 rfl)) (HR1.out.le 1 rfl) ft3 (by omega) (by omega)).mono ?_
 rintro e3 w3 ⟨m3, rfl, hm3, hb3⟩
 have HR2 := Lib.hid (HR1.out.below hb3)
 have b3 := (HR2.out.get 0 rfl).cell
 clear hb3 HR1
 rcases hm3 with rfl | ⟨hp3, hm3⟩
 ·go_wp2_with fail
  go_ret
  exact ⟨_, rfl, .inl rfl, HR2.out.1⟩
 have n3 : ¬ (m3 < 0) := by omega
 have u3 : m3 ≤ 1048576 := by omega
 have HM3 := Lib.hid hm3; clear hm3
 go_wp2_with fail
 refine (szGivenS_f A4 c4 x4 lo hi _ _ (shMachine_f4 (HR2.out.get 1 rfl)) (HR2.out.le 1 rfl) ft4 (by omega) (by omega)).mono ?_
 rintro e4 w4 ⟨m4, rfl, hm4, hb4⟩
 have HR3 := Lib.hid (HR2.out.below hb4)
 have b4 := (HR3.out.get 0 rfl).cell
 clear hb4 HR2
 rcases hm4 with rfl | ⟨hp4, hm4⟩
 ·go_wp2_with fail
  go_ret
  exact ⟨_, rfl, .inl rfl, HR3.out.1⟩
 have n4 : ¬ (m4 < 0) := by omega
 have u4 : m4 ≤ 1048576 := by omega
 have HM4 := Lib.hid hm4; clear hm4
 go_wp2_with fail
 refine (szLoopS_f A5 c5 x5 lo hi _ _ (shMachine_f5 (HR3.out.get 1 rfl)) (HR3.out.le 1 rfl) ft5 (by omega) (by omega)).mono ?_
 rintro e5 w5 ⟨m5, rfl, hm5, hb5⟩
 have HR4 := Lib.hid (HR3.out.below hb5)
 have b5 := (HR4.out.get 0 rfl).cell
 clear hb5 HR3
 rcases hm5 with rfl | ⟨hp5, hm5⟩
 ·go_wp2_with fail
  go_ret
  exact ⟨_, rfl, .inl rfl, HR4.out.1⟩
 have n5 : ¬ (m5 < 0) := by omega
 have u5 : m5 ≤ 1048576 := by omega
 have HM5 := Lib.hid hm5; clear hm5
 go_wp2_with fail
 refine (szFrameS_f A6 c6 x6 lo hi _ _ (shMachine_f6 (HR4.out.get 1 rfl)) (HR4.out.le 1 rfl) ft6 (by omega) (by omega)).mono ?_
 rintro e6 w6 ⟨m6, rfl, hm6, hb6⟩
 have HR5 := Lib.hid (HR4.out.below hb6)
 have b6 := (HR5.out.get 0 rfl).cell
 clear hb6 HR4
 rcases hm6 with rfl | ⟨hp6, hm6⟩
 ·go_wp2_with fail
  go_ret
  exact ⟨_, rfl, .inl rfl, HR5.out.1⟩
 have n6 : ¬ (m6 < 0) := by omega
 have u6 : m6 ≤ 1048576 := by omega
 have HM6 := Lib.hid hm6; clear hm6
 go_wp2_with fail
 refine (szLocals_f x7 x8 x9 x10 A8 c8 A9 c9 A10 c10 lo hi _ _ (shMachine_f7 (HR5.out.get 1 rfl)) (HR5.out.le 1 rfl) ft7 (by omega) (by omega)).mono ?_
 rintro e7 w7 ⟨m7, rfl, hm7, hb7⟩
 have HR6 := Lib.hid (HR5.out.below hb7)
 have b7 := (HR6.out.get 0 rfl).cell
 clear hb7 HR5
 rcases hm7 with rfl | ⟨hp7, hm7⟩
 ·go_wp2_with fail
  go_ret
  exact ⟨_, rfl, .inl rfl, HR6.out.1⟩
 have n7 : ¬ (m7 < 0) := by omega
 have u7 : m7 ≤ 1048576 := by omega
 have HM7 := Lib.hid hm7; clear hm7
 go_wp2_with fail
 refine (szRef_f x13 x14 x15 A15 c15 lo hi _ _ (shMachine_f13 (HR6.out.get 1 rfl)) (HR6.out.le 1 rfl) ft13 (by omega) (by omega)).mono ?_
 rintro e13 w13 ⟨m13, rfl, hm13, hb13⟩
 have HR7 := Lib.hid (HR6.out.below hb13)
 have b13 := (HR7.out.get 0 rfl).cell
 clear hb13 HR6
 rcases hm13 with rfl | ⟨hp13, hm13⟩
 ·go_wp2_with fail
  go_ret
  exact ⟨_, rfl, .inl rfl, HR7.out.1⟩
 have n13 : ¬ (m13 < 0) := by omega
 have u13 : m13 ≤ 1048576 := by omega
 have HM13 := Lib.hid hm13; clear hm13
 by_cases g20 : m13 - (x20.size : Int) < 0
 ·go_wp2_with fail
  go_ret
  exact ⟨_, rfl, .inl rfl, HR7.out.1⟩
 go_wp2_with fail
 go_ret
 refine ⟨_, rfl, .inr ⟨by omega, ?_⟩, HR7.out.1⟩
 have := HM2.out
 have := HM3.out
 have := HM4.out
 have := HM5.out
 have := HM6.out
 have := HM7.out
 have := HM13.out
 omega
end Go.Proofs.YtgnmollbnopigaaGreat
/- Machine: shapes and the laws' walks (eq). Printed by gen_fam.py. -/
namespace Go.Proofs.YtgnmollbnopigaaGreat
open Go.RowKit
theorem eqMachine_f (x0 : Int) (x1 : Int) (x2 : List ByteArray) (x3 : List TyRef) (x4 : List TyGiven) (x5 : List TyLoop) (x6 : List TyFrame) (x7 : Int) (x8 : List TyBind) (x9 : List TyCell) (x10 : List TyLevel) (x11 : Bool) (x12 : Bool) (x13 : Bool) (x14 : ByteArray) (x15 : List ByteArray) (x16 : Int) (x17 : Int) (x18 : Int) (x19 : Int) (x20 : ByteArray) (A2 : Option Addr) (c2 : Nat) (A3 : Option Addr) (c3 : Nat) (A4 : Option Addr) (c4 : Nat) (A5 : Option Addr) (c5 : Nat) (A6 : Option Addr) (c6 : Nat) (A8 : Option Addr) (c8 : Nat) (A9 : Option Addr) (c9 : Nat) (A10 : Option Addr) (c10 : Nat) (A15 : Option Addr) (c15 : Nat) (B2 : Option Addr) (d2 : Nat) (B3 : Option Addr) (d3 : Nat) (B4 : Option Addr) (d4 : Nat) (B5 : Option Addr) (d5 : Nat) (B6 : Option Addr) (d6 : Nat) (B8 : Option Addr) (d8 : Nat) (B9 : Option Addr) (d9 : Nat) (B10 : Option Addr) (d10 : Nat) (B15 : Option Addr) (d15 : Nat) (lo hi lo' hi' : Nat) (w : World) (h : shMachine.R w lo hi [.int .i64 x0, .int .i64 x1, .slice A2 x2.length c2, .slice A3 x3.length c3, .slice A4 x4.length c4, .slice A5 x5.length c5, .slice A6 x6.length c6, .int .i64 x7, .slice A8 x8.length c8, .slice A9 x9.length c9, .slice A10 x10.length c10, .bool x11, .bool x12, .bool x13, .string x14, .slice A15 x15.length c15, .int .i64 x16, .int .i64 x17, .int .i64 x18, .int .i64 x19, .string x20] (x0, x1, x2, x3, x4, x5, x6, (x7, x8, x9, x10), x11, x12, (x13, x14, x15), x16, x17, x18, x19, x20)) (h' : shMachine.R w lo' hi' [.int .i64 x0, .int .i64 x1, .slice B2 x2.length d2, .slice B3 x3.length d3, .slice B4 x4.length d4, .slice B5 x5.length d5, .slice B6 x6.length d6, .int .i64 x7, .slice B8 x8.length d8, .slice B9 x9.length d9, .slice B10 x10.length d10, .bool x11, .bool x12, .bool x13, .string x14, .slice B15 x15.length d15, .int .i64 x16, .int .i64 x17, .int .i64 x18, .int .i64 x19, .string x20] (x0, x1, x2, x3, x4, x5, x6, (x7, x8, x9, x10), x11, x12, (x13, x14, x15), x16, x17, x18, x19, x20)) (hhi : hi ≤ w.heap.size) (hhi' : hi' ≤ w.heap.size) (hf : shMachine.fit 4294967296 (x0, x1, x2, x3, x4, x5, x6, (x7, x8, x9, x10), x11, x12, (x13, x14, x15), x16, x17, x18, x19, x20)) :
  Calls Tryz.prog 206 #[.agg #[.int .i64 x0, .int .i64 x1, .slice A2 x2.length c2, .slice A3 x3.length c3, .slice A4 x4.length c4, .slice A5 x5.length c5, .slice A6 x6.length c6, .int .i64 x7, .slice A8 x8.length c8, .slice A9 x9.length c9, .slice A10 x10.length c10, .bool x11, .bool x12, .bool x13, .string x14, .slice A15 x15.length c15, .int .i64 x16, .int .i64 x17, .int .i64 x18, .int .i64 x19, .string x20], .agg #[.int .i64 x0, .int .i64 x1, .slice B2 x2.length d2, .slice B3 x3.length d3, .slice B4 x4.length d4, .slice B5 x5.length d5, .slice B6 x6.length d6, .int .i64 x7, .slice B8 x8.length d8, .slice B9 x9.length d9, .slice B10 x10.length d10, .bool x11, .bool x12, .bool x13, .string x14, .slice B15 x15.length d15, .int .i64 x16, .int .i64 x17, .int .i64 x18, .int .i64 x19, .string x20]] w fun e w' => e = .returned (.bool true) ∧ Below w.heap.size w w' := by
 rw [shMachine_fit] at hf
 obtain ⟨ft0, ft1, ft2, ft3, ft4, ft5, ft6, ft7, ft11, ft12, ft13, ft16, ft17, ft18, ft19, ft20⟩ := hf
 have R0 := ((((Stand.nil w).add lo hi (fun W => shMachine.R W lo hi [.int .i64 x0, .int .i64 x1, .slice A2 x2.length c2, .slice A3 x3.length c3, .slice A4 x4.length c4, .slice A5 x5.length c5, .slice A6 x6.length c6, .int .i64 x7, .slice A8 x8.length c8, .slice A9 x9.length c9, .slice A10 x10.length c10, .bool x11, .bool x12, .bool x13, .string x14, .slice A15 x15.length c15, .int .i64 x16, .int .i64 x17, .int .i64 x18, .int .i64 x19, .string x20] (x0, x1, x2, x3, x4, x5, x6, (x7, x8, x9, x10), x11, x12, (x13, x14, x15), x16, x17, x18, x19, x20)) (fun _ _ hk h => shMachine.R_keep h hk) hhi h).add lo' hi' (fun W => shMachine.R W lo' hi' [.int .i64 x0, .int .i64 x1, .slice B2 x2.length d2, .slice B3 x3.length d3, .slice B4 x4.length d4, .slice B5 x5.length d5, .slice B6 x6.length d6, .int .i64 x7, .slice B8 x8.length d8, .slice B9 x9.length d9, .slice B10 x10.length d10, .bool x11, .bool x12, .bool x13, .string x14, .slice B15 x15.length d15, .int .i64 x16, .int .i64 x17, .int .i64 x18, .int .i64 x19, .string x20] (x0, x1, x2, x3, x4, x5, x6, (x7, x8, x9, x10), x11, x12, (x13, x14, x15), x16, x17, x18, x19, x20)) (fun _ _ hk h => shMachine.R_keep h hk) hhi' h').box 154 #[.int .i64 x0, .int .i64 x1, .slice A2 x2.length c2, .slice A3 x3.length c3, .slice A4 x4.length c4, .slice A5 x5.length c5, .slice A6 x6.length c6, .int .i64 x7, .slice A8 x8.length c8, .slice A9 x9.length c9, .slice A10 x10.length c10, .bool x11, .bool x12, .bool x13, .string x14, .slice A15 x15.length c15, .int .i64 x16, .int .i64 x17, .int .i64 x18, .int .i64 x19, .string x20]).box 154 #[.int .i64 x0, .int .i64 x1, .slice B2 x2.length d2, .slice B3 x3.length d3, .slice B4 x4.length d4, .slice B5 x5.length d5, .slice B6 x6.length d6, .int .i64 x7, .slice B8 x8.length d8, .slice B9 x9.length d9, .slice B10 x10.length d10, .bool x11, .bool x12, .bool x13, .string x14, .slice B15 x15.length d15, .int .i64 x16, .int .i64 x17, .int .i64 x18, .int .i64 x19, .string x20]
 rw [heap_alloc_size1] at R0
 have HR0 := Lib.hid R0
 clear R0 h h'
 go_enter Tryz.func206, Tryz.ntmps206
 go_wp2_with fail
 refine (eqStringS_f A2 B2 c2 d2 x2 lo hi lo' hi' _ (shMachine_f2 (HR0.out.get 3 rfl)) (shMachine_f2 (HR0.out.get 2 rfl)) (HR0.out.le 3 rfl) (HR0.out.le 2 rfl) ft2).mono ?_
 rintro e2 w2 ⟨rfl, hb2⟩
 have HR1 := Lib.hid (HR0.out.below hb2)
 have b2 := (HR1.out.get 0 rfl).cell
 have a2 := (HR1.out.get 1 rfl).cell
 clear hb2 HR0
 go_wp2_with fail
 refine (eqRefS_f A3 B3 c3 d3 x3 lo hi lo' hi' _ (shMachine_f3 (HR1.out.get 3 rfl)) (shMachine_f3 (HR1.out.get 2 rfl)) (HR1.out.le 3 rfl) (HR1.out.le 2 rfl) ft3).mono ?_
 rintro e3 w3 ⟨rfl, hb3⟩
 have HR2 := Lib.hid (HR1.out.below hb3)
 have b3 := (HR2.out.get 0 rfl).cell
 have a3 := (HR2.out.get 1 rfl).cell
 clear hb3 HR1
 go_wp2_with fail
 refine (eqGivenS_f A4 B4 c4 d4 x4 lo hi lo' hi' _ (shMachine_f4 (HR2.out.get 3 rfl)) (shMachine_f4 (HR2.out.get 2 rfl)) (HR2.out.le 3 rfl) (HR2.out.le 2 rfl) ft4).mono ?_
 rintro e4 w4 ⟨rfl, hb4⟩
 have HR3 := Lib.hid (HR2.out.below hb4)
 have b4 := (HR3.out.get 0 rfl).cell
 have a4 := (HR3.out.get 1 rfl).cell
 clear hb4 HR2
 go_wp2_with fail
 refine (eqLoopS_f A5 B5 c5 d5 x5 lo hi lo' hi' _ (shMachine_f5 (HR3.out.get 3 rfl)) (shMachine_f5 (HR3.out.get 2 rfl)) (HR3.out.le 3 rfl) (HR3.out.le 2 rfl) ft5).mono ?_
 rintro e5 w5 ⟨rfl, hb5⟩
 have HR4 := Lib.hid (HR3.out.below hb5)
 have b5 := (HR4.out.get 0 rfl).cell
 have a5 := (HR4.out.get 1 rfl).cell
 clear hb5 HR3
 go_wp2_with fail
 refine (eqFrameS_f A6 B6 c6 d6 x6 lo hi lo' hi' _ (shMachine_f6 (HR4.out.get 3 rfl)) (shMachine_f6 (HR4.out.get 2 rfl)) (HR4.out.le 3 rfl) (HR4.out.le 2 rfl) ft6).mono ?_
 rintro e6 w6 ⟨rfl, hb6⟩
 have HR5 := Lib.hid (HR4.out.below hb6)
 have b6 := (HR5.out.get 0 rfl).cell
 have a6 := (HR5.out.get 1 rfl).cell
 clear hb6 HR4
 go_wp2_with fail
 refine (eqLocals_f x7 x8 x9 x10 A8 c8 A9 c9 A10 c10 B8 d8 B9 d9 B10 d10 lo hi lo' hi' _ (shMachine_f7 (HR5.out.get 3 rfl)) (shMachine_f7 (HR5.out.get 2 rfl)) (HR5.out.le 3 rfl) (HR5.out.le 2 rfl) ft7).mono ?_
 rintro e7 w7 ⟨rfl, hb7⟩
 have HR6 := Lib.hid (HR5.out.below hb7)
 have b7 := (HR6.out.get 0 rfl).cell
 have a7 := (HR6.out.get 1 rfl).cell
 clear hb7 HR5
 go_wp2_with fail
 refine (eqRef_f x13 x14 x15 A15 c15 B15 d15 lo hi lo' hi' _ (shMachine_f13 (HR6.out.get 3 rfl)) (shMachine_f13 (HR6.out.get 2 rfl)) (HR6.out.le 3 rfl) (HR6.out.le 2 rfl) ft13).mono ?_
 rintro e13 w13 ⟨rfl, hb13⟩
 have HR7 := Lib.hid (HR6.out.below hb13)
 have b13 := (HR7.out.get 0 rfl).cell
 have a13 := (HR7.out.get 1 rfl).cell
 clear hb13 HR6
 go_wp2_with fail
 go_ret
 exact ⟨rfl, HR7.out.1⟩
end Go.Proofs.YtgnmollbnopigaaGreat
