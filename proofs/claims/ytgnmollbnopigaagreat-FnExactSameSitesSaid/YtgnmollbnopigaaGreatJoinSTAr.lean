/- Both sides' comparisons: what they answer, plainly. -/
import Derived.Test.YtgnmollbnopigaaGreatJoinSTAh
import Derived.Test.YtgnmollbnopigaaGreatJoinSTAi
import Derived.Test.YtgnmollbnopigaaGreatJoinSTAj
import Derived.Test.YtgnmollbnopigaaGreatJoinSTAf
import Derived.Test.YtgnmollbnopigaaGreatJoinSTAm
namespace Go.Proofs.YtgnmollbnopigaaGreat
open Go.RowKit
section
variable {α : Type} {d : α} {xs ys : List α} {k : Nat}
theorem take_step (h : xs.take k = ys.take k) (hk : k < xs.length) (hl : xs.length = ys.length) (he : xs.getD k d = ys.getD k d) : xs.take (k + 1) = ys.take (k + 1) := by
 have h2 := List.take_succ_eq_append_getElem (l := ys) (i := k) (by omega)
 rw [List.take_succ_eq_append_getElem hk, h2, h]
 rw [List.getD_eq_getElem?_getD, List.getD_eq_getElem?_getD, List.getElem?_eq_getElem hk, List.getElem?_eq_getElem (by omega)] at he
 have h3 : xs[k] = ys[k] := by simpa using he
 rw [h3]
theorem take_all (h : xs.take xs.length = ys.take xs.length) (hl : xs.length = ys.length) : xs = ys := by
 rwa [List.take_length, hl, List.take_length] at h
theorem ne_of_len (h : ¬ xs.length = ys.length) : xs ≠ ys := fun e => h (by rw [e])
theorem ne_at (he : ¬ xs.getD k d = ys.getD k d) : xs ≠ ys := fun e => he (by rw [e])
end
noncomputable def sameB {α : Type} (x y : α) : Bool := @decide (x = y) (Classical.propDecidable _)
def SmS {α : Type} (s : Sh α) (f : Nat) : Prop := ∀ (X Y : α) (vs us : List Value) (lo hi lo' hi' : Nat) (w : World) (_ : s.R w lo hi vs X) (_ : s.R w lo' hi' us Y) (_ : hi ≤ w.heap.size) (_ : hi' ≤ w.heap.size) (_ : s.fit 4294967296 X) (_ : s.fit 4294967296 Y),
  Calls Tryz.prog f #[.agg vs.toArray, .agg us.toArray] w fun e w' => e = .returned (.bool (sameB X Y)) ∧ Below w.heap.size w w'
def SmR {α : Type} (t : TypeId) (s : Sh α) (f : Nat) : Prop := ∀ (A B : Option Addr) (c d : Nat) (xs ys : List α) (lo hi lo' hi' : Nat) (w : World) (_ : (Sh.row t s).R w lo hi [.slice A xs.length c] xs) (_ : (Sh.row t s).R w lo' hi' [.slice B ys.length d] ys) (_ : hi ≤ w.heap.size) (_ : hi' ≤ w.heap.size) (_ : (Sh.row t s).fit 4294967296 xs) (_ : (Sh.row t s).fit 4294967296 ys),
  Calls Tryz.prog f #[.slice A xs.length c, .slice B ys.length d] w fun e w' => e = .returned (.bool (sameB xs ys)) ∧ Below w.heap.size w w'
def SmF {α : Type} (t : TypeId) (s : Sh α) (f g : Nat) : Prop := ∀ (A B : Option Addr) (c d : Nat) (xs ys : List α) (lo hi lo' hi' : Nat) (w : World) (_ : (Sh.row t s).R w lo hi [.slice A xs.length c] xs) (_ : (Sh.row t s).R w lo' hi' [.slice B ys.length d] ys) (_ : hi ≤ w.heap.size) (_ : hi' ≤ w.heap.size) (_ : (Sh.row t s).fit 4294967296 xs) (_ : (Sh.row t s).fit 4294967296 ys),
  Calls Tryz.prog f #[.slice A xs.length c, .slice B ys.length d, .func (.func g) #[] #[]] w fun e w' => e = .returned (.bool (sameB xs ys)) ∧ Below w.heap.size w w'
theorem same_f {α : Type} {x y : α} (h : ¬ x = y) : sameB x y = false := @decide_eq_false _ (Classical.propDecidable _) h
theorem same_t {α : Type} {x y : α} (h : x = y) : sameB x y = true := @decide_eq_true _ (Classical.propDecidable _) h
theorem nf {α β : Type} (f : α → β) {x y : α} {a : Bool} (h : Hid (a = sameB x y)) (hne : ¬ f x = f y) : Hid (a = false) := Lib.hid (h.out.trans (same_f fun e => hne (congrArg f e)))
theorem str_ne {x y : ByteArray} (h : ¬ x = y) : (x.toList == y.toList) = false := by
 rw [beq_eq_false_iff_ne]
 exact fun e => h (bytes_toList_inj.1 e)
end Go.Proofs.YtgnmollbnopigaaGreat
/- Job, World, Base, Site: walks field by field (sh). Printed by gen_big.py. -/
namespace Go.Proofs.YtgnmollbnopigaaGreat
open Go.RowKit
abbrev TyJob := Int × TyMachine × TyTrans × TyMachine × ByteArray × (List ByteArray) × (List TyLock) × Int × (List ByteArray) × ByteArray
def shJob : Sh TyJob := Sh.prod shI (Sh.prod shMachine (Sh.prod shTrans (Sh.prod shMachine (Sh.prod shS (Sh.prod (Sh.row 9 shS) (Sh.prod (Sh.row 231 shLock) (Sh.prod shI (Sh.prod (Sh.row 9 shS) (shS)))))))))
theorem sizeLJob : (Tryz.prog.info? 216).map (·.size) = some shJob.k := by kernel_rfl
theorem sizeIJob : (Tryz.prog.info? 159).map (·.size) = some shJob.k := by kernel_rfl
abbrev TyWorld := Int × TyProgram × (List TyTrigger) × TyTree × TyLocks × (List TyJob) × Int × (List TyBatch)
def shWorld : Sh TyWorld := Sh.prod shI (Sh.prod shProgram (Sh.prod (Sh.row 229 shTrigger) (Sh.prod shTree (Sh.prod shLocks (Sh.prod (Sh.row 159 shJob) (Sh.prod shI ((Sh.row 167 shBatch))))))))
theorem sizeLWorld : (Tryz.prog.info? 37).map (·.size) = some shWorld.k := by kernel_rfl
theorem sizeIWorld : (Tryz.prog.info? 74).map (·.size) = some shWorld.k := by kernel_rfl
abbrev TyBase := TyBtree × TyCache × TyJournal × Int × Int
def shBase : Sh TyBase := Sh.prod shBtree (Sh.prod shCache (Sh.prod shJournal (Sh.prod shI (shI))))
theorem sizeLBase : (Tryz.prog.info? 54).map (·.size) = some shBase.k := by kernel_rfl
theorem sizeIBase : (Tryz.prog.info? 89).map (·.size) = some shBase.k := by kernel_rfl
abbrev TySite := TyWorld × TyBase × TyTree × Int × (List TyBatch)
def shSite : Sh TySite := Sh.prod shWorld (Sh.prod shBase (Sh.prod shTree (Sh.prod shI ((Sh.row 167 shBatch)))))
theorem sizeLSite : (Tryz.prog.info? 56).map (·.size) = some shSite.k := by kernel_rfl
theorem sizeISite : (Tryz.prog.info? 91).map (·.size) = some shSite.k := by kernel_rfl
end Go.Proofs.YtgnmollbnopigaaGreat
/- Machine: shapes and the laws' walks (eq). Printed by gen_fam.py. -/
namespace Go.Proofs.YtgnmollbnopigaaGreat
open Go.RowKit
set_option maxHeartbeats 4000000 in
set_option maxRecDepth 100000 in
theorem eqMachine_f (x0 : Int) (x1 : Int) (x2 : List ByteArray) (x3 : List TyRef) (x4 : List TyGiven) (x5 : List TyLoop) (x6 : List TyFrame) (x7 : Int) (x8 : List TyBind) (x9 : List TyCell) (x10 : List TyLevel) (x11 : Bool) (x12 : Bool) (x13 : Bool) (x14 : ByteArray) (x15 : List ByteArray) (x16 : Int) (x17 : Int) (x18 : Int) (x19 : Int) (x20 : ByteArray) (A2 : Option Addr) (c2 : Nat) (A3 : Option Addr) (c3 : Nat) (A4 : Option Addr) (c4 : Nat) (A5 : Option Addr) (c5 : Nat) (A6 : Option Addr) (c6 : Nat) (A8 : Option Addr) (c8 : Nat) (A9 : Option Addr) (c9 : Nat) (A10 : Option Addr) (c10 : Nat) (A15 : Option Addr) (c15 : Nat) (B2 : Option Addr) (d2 : Nat) (B3 : Option Addr) (d3 : Nat) (B4 : Option Addr) (d4 : Nat) (B5 : Option Addr) (d5 : Nat) (B6 : Option Addr) (d6 : Nat) (B8 : Option Addr) (d8 : Nat) (B9 : Option Addr) (d9 : Nat) (B10 : Option Addr) (d10 : Nat) (B15 : Option Addr) (d15 : Nat) (lo hi lo' hi' : Nat) (w : World) (h : shMachine.R w lo hi [.int .i64 x0, .int .i64 x1, .slice A2 x2.length c2, .slice A3 x3.length c3, .slice A4 x4.length c4, .slice A5 x5.length c5, .slice A6 x6.length c6, .int .i64 x7, .slice A8 x8.length c8, .slice A9 x9.length c9, .slice A10 x10.length c10, .bool x11, .bool x12, .bool x13, .string x14, .slice A15 x15.length c15, .int .i64 x16, .int .i64 x17, .int .i64 x18, .int .i64 x19, .string x20] (x0, x1, x2, x3, x4, x5, x6, (x7, x8, x9, x10), x11, x12, (x13, x14, x15), x16, x17, x18, x19, x20)) (h' : shMachine.R w lo' hi' [.int .i64 x0, .int .i64 x1, .slice B2 x2.length d2, .slice B3 x3.length d3, .slice B4 x4.length d4, .slice B5 x5.length d5, .slice B6 x6.length d6, .int .i64 x7, .slice B8 x8.length d8, .slice B9 x9.length d9, .slice B10 x10.length d10, .bool x11, .bool x12, .bool x13, .string x14, .slice B15 x15.length d15, .int .i64 x16, .int .i64 x17, .int .i64 x18, .int .i64 x19, .string x20] (x0, x1, x2, x3, x4, x5, x6, (x7, x8, x9, x10), x11, x12, (x13, x14, x15), x16, x17, x18, x19, x20)) (hhi : hi ≤ w.heap.size) (hhi' : hi' ≤ w.heap.size) (hf : shMachine.fit 4294967296 (x0, x1, x2, x3, x4, x5, x6, (x7, x8, x9, x10), x11, x12, (x13, x14, x15), x16, x17, x18, x19, x20)) :
  Calls Tryz.prog 206 #[.agg #[.int .i64 x0, .int .i64 x1, .slice A2 x2.length c2, .slice A3 x3.length c3, .slice A4 x4.length c4, .slice A5 x5.length c5, .slice A6 x6.length c6, .int .i64 x7, .slice A8 x8.length c8, .slice A9 x9.length c9, .slice A10 x10.length c10, .bool x11, .bool x12, .bool x13, .string x14, .slice A15 x15.length c15, .int .i64 x16, .int .i64 x17, .int .i64 x18, .int .i64 x19, .string x20], .agg #[.int .i64 x0, .int .i64 x1, .slice B2 x2.length d2, .slice B3 x3.length d3, .slice B4 x4.length d4, .slice B5 x5.length d5, .slice B6 x6.length d6, .int .i64 x7, .slice B8 x8.length d8, .slice B9 x9.length d9, .slice B10 x10.length d10, .bool x11, .bool x12, .bool x13, .string x14, .slice B15 x15.length d15, .int .i64 x16, .int .i64 x17, .int .i64 x18, .int .i64 x19, .string x20]] w fun e w' => e = .returned (.bool true) ∧ Below w.heap.size w w' := by
 rw [shMachine_fit] at hf
 obtain ⟨ft0, ft1, ft2, ft3, ft4, ft5, ft6, ft7, ft11, ft12, ft13, ft16, ft17, ft18, ft19, ft20⟩ := hf
 have R0 := ((((Stand.nil w).add lo hi (fun W => shMachine.R W lo hi [.int .i64 x0, .int .i64 x1, .slice A2 x2.length c2, .slice A3 x3.length c3, .slice A4 x4.length c4, .slice A5 x5.length c5, .slice A6 x6.length c6, .int .i64 x7, .slice A8 x8.length c8, .slice A9 x9.length c9, .slice A10 x10.length c10, .bool x11, .bool x12, .bool x13, .string x14, .slice A15 x15.length c15, .int .i64 x16, .int .i64 x17, .int .i64 x18, .int .i64 x19, .string x20] (x0, x1, x2, x3, x4, x5, x6, (x7, x8, x9, x10), x11, x12, (x13, x14, x15), x16, x17, x18, x19, x20)) (fun _ _ hk h => shMachine.R_keep h hk) hhi h).add lo' hi' (fun W => shMachine.R W lo' hi' [.int .i64 x0, .int .i64 x1, .slice B2 x2.length d2, .slice B3 x3.length d3, .slice B4 x4.length d4, .slice B5 x5.length d5, .slice B6 x6.length d6, .int .i64 x7, .slice B8 x8.length d8, .slice B9 x9.length d9, .slice B10 x10.length d10, .bool x11, .bool x12, .bool x13, .string x14, .slice B15 x15.length d15, .int .i64 x16, .int .i64 x17, .int .i64 x18, .int .i64 x19, .string x20] (x0, x1, x2, x3, x4, x5, x6, (x7, x8, x9, x10), x11, x12, (x13, x14, x15), x16, x17, x18, x19, x20)) (fun _ _ hk h => shMachine.R_keep h hk) hhi' h').box 154 #[.int .i64 x0, .int .i64 x1, .slice A2 x2.length c2, .slice A3 x3.length c3, .slice A4 x4.length c4, .slice A5 x5.length c5, .slice A6 x6.length c6, .int .i64 x7, .slice A8 x8.length c8, .slice A9 x9.length c9, .slice A10 x10.length c10, .bool x11, .bool x12, .bool x13, .string x14, .slice A15 x15.length c15, .int .i64 x16, .int .i64 x17, .int .i64 x18, .int .i64 x19, .string x20]).box 154 #[.int .i64 x0, .int .i64 x1, .slice B2 x2.length d2, .slice B3 x3.length d3, .slice B4 x4.length d4, .slice B5 x5.length d5, .slice B6 x6.length d6, .int .i64 x7, .slice B8 x8.length d8, .slice B9 x9.length d9, .slice B10 x10.length d10, .bool x11, .bool x12, .bool x13, .string x14, .slice B15 x15.length d15, .int .i64 x16, .int .i64 x17, .int .i64 x18, .int .i64 x19, .string x20]
 rw [heap_alloc_size1] at R0
 have HR0 := Lib.hid R0
 clear R0 h h'
 go_enter Tryz.func206, Tryz.ntmps206
 go_wp2_with fail
 refine (eqStringS_f A2 B2 c2 d2 x2 lo hi lo' hi' _ (shMachine_f2 (HR0.out.get 3 rfl)) (shMachine_f2 (HR0.out.get 2 rfl)) (HR0.out.le 3 rfl) (HR0.out.le 2 rfl) ft2).mono ?_
 rintro e2 w2 ⟨rfl, hb2⟩
 have HR1 := Lib.hid (HR0.out.below hb2)
 have b2 := (HR1.out.get 0 rfl).cell
 have a2 := (HR1.out.get 1 rfl).cell
 clear hb2 HR0
 go_wp2_with fail
 refine (eqRefS_f A3 B3 c3 d3 x3 lo hi lo' hi' _ (shMachine_f3 (HR1.out.get 3 rfl)) (shMachine_f3 (HR1.out.get 2 rfl)) (HR1.out.le 3 rfl) (HR1.out.le 2 rfl) ft3).mono ?_
 rintro e3 w3 ⟨rfl, hb3⟩
 have HR2 := Lib.hid (HR1.out.below hb3)
 have b3 := (HR2.out.get 0 rfl).cell
 have a3 := (HR2.out.get 1 rfl).cell
 clear hb3 HR1
 go_wp2_with fail
 refine (eqGivenS_f A4 B4 c4 d4 x4 lo hi lo' hi' _ (shMachine_f4 (HR2.out.get 3 rfl)) (shMachine_f4 (HR2.out.get 2 rfl)) (HR2.out.le 3 rfl) (HR2.out.le 2 rfl) ft4).mono ?_
 rintro e4 w4 ⟨rfl, hb4⟩
 have HR3 := Lib.hid (HR2.out.below hb4)
 have b4 := (HR3.out.get 0 rfl).cell
 have a4 := (HR3.out.get 1 rfl).cell
 clear hb4 HR2
 go_wp2_with fail
 refine (eqLoopS_f A5 B5 c5 d5 x5 lo hi lo' hi' _ (shMachine_f5 (HR3.out.get 3 rfl)) (shMachine_f5 (HR3.out.get 2 rfl)) (HR3.out.le 3 rfl) (HR3.out.le 2 rfl) ft5).mono ?_
 rintro e5 w5 ⟨rfl, hb5⟩
 have HR4 := Lib.hid (HR3.out.below hb5)
 have b5 := (HR4.out.get 0 rfl).cell
 have a5 := (HR4.out.get 1 rfl).cell
 clear hb5 HR3
 go_wp2_with fail
 refine (eqFrameS_f A6 B6 c6 d6 x6 lo hi lo' hi' _ (shMachine_f6 (HR4.out.get 3 rfl)) (shMachine_f6 (HR4.out.get 2 rfl)) (HR4.out.le 3 rfl) (HR4.out.le 2 rfl) ft6).mono ?_
 rintro e6 w6 ⟨rfl, hb6⟩
 have HR5 := Lib.hid (HR4.out.below hb6)
 have b6 := (HR5.out.get 0 rfl).cell
 have a6 := (HR5.out.get 1 rfl).cell
 clear hb6 HR4
 go_wp2_with fail
 refine (eqLocals_f x7 x8 x9 x10 A8 c8 A9 c9 A10 c10 B8 d8 B9 d9 B10 d10 lo hi lo' hi' _ (shMachine_f7 (HR5.out.get 3 rfl)) (shMachine_f7 (HR5.out.get 2 rfl)) (HR5.out.le 3 rfl) (HR5.out.le 2 rfl) ft7).mono ?_
 rintro e7 w7 ⟨rfl, hb7⟩
 have HR6 := Lib.hid (HR5.out.below hb7)
 have b7 := (HR6.out.get 0 rfl).cell
 have a7 := (HR6.out.get 1 rfl).cell
 clear hb7 HR5
 go_wp2_with fail
 refine (eqRef_f x13 x14 x15 A15 c15 B15 d15 lo hi lo' hi' _ (shMachine_f13 (HR6.out.get 3 rfl)) (shMachine_f13 (HR6.out.get 2 rfl)) (HR6.out.le 3 rfl) (HR6.out.le 2 rfl) ft13).mono ?_
 rintro e13 w13 ⟨rfl, hb13⟩
 have HR7 := Lib.hid (HR6.out.below hb13)
 have b13 := (HR7.out.get 0 rfl).cell
 have a13 := (HR7.out.get 1 rfl).cell
 clear hb13 HR6
 go_wp2_with fail
 go_ret
 exact ⟨rfl, HR7.out.1⟩
end Go.Proofs.YtgnmollbnopigaaGreat
/- Image, Parcel, Replica: shapes and the laws' walks (sh). Printed by gen_fam.py. -/
namespace Go.Proofs.YtgnmollbnopigaaGreat
open Go.RowKit
abbrev TyImage := ByteArray × List ByteArray × Bool × ByteArray × Bool × ByteArray
def shImage : Sh TyImage := Sh.prod (shS) (Sh.prod (Sh.row 9 shS) (Sh.prod (shB) (Sh.prod (shS) (Sh.prod (shB) (shS)))))
theorem shImage_R {w : World} {lo hi : Nat} {vs : List Value} {x0 : ByteArray} {x1 : List ByteArray} {x2 : Bool} {x3 : ByteArray} {x4 : Bool} {x5 : ByteArray} : shImage.R w lo hi vs (x0, x1, x2, x3, x4, x5) ↔ ∃ A1 c1, vs = [.string x0, .slice A1 x1.length c1, .bool x2, .string x3, .bool x4, .string x5] ∧ RowG shS w lo hi A1 x1 := by
 constructor
 ·rintro ⟨_, _, rfl, rfl, ⟨_, _, rfl, ⟨A1, c1, rfl, g1⟩, ⟨_, _, rfl, rfl, ⟨_, _, rfl, rfl, ⟨_, _, rfl, rfl, rfl⟩⟩⟩⟩⟩
  exact ⟨A1, c1, rfl, g1⟩
 ·rintro ⟨A1, c1, rfl, g1⟩
  exact ⟨[.string x0], [.slice A1 x1.length c1, .bool x2, .string x3, .bool x4, .string x5], rfl, rfl, ⟨[.slice A1 x1.length c1], [.bool x2, .string x3, .bool x4, .string x5], rfl, ⟨A1, c1, rfl, g1⟩, ⟨[.bool x2], [.string x3, .bool x4, .string x5], rfl, rfl, ⟨[.string x3], [.bool x4, .string x5], rfl, rfl, ⟨[.bool x4], [.string x5], rfl, rfl, rfl⟩⟩⟩⟩⟩
theorem shImage_f1 {w : World} {lo hi : Nat} {x0 : ByteArray} {x1 : List ByteArray} {x2 : Bool} {x3 : ByteArray} {x4 : Bool} {x5 : ByteArray} {A1 : Option Addr} {c1 : Nat} (h : shImage.R w lo hi [.string x0, .slice A1 x1.length c1, .bool x2, .string x3, .bool x4, .string x5] (x0, x1, x2, x3, x4, x5)) : (Sh.row 9 shS).R w lo hi [.slice A1 x1.length c1] x1 := by
 obtain ⟨A1', c1', e, g1⟩ := shImage_R.1 h
 simp only [List.cons.injEq, Value.slice.injEq] at e
 simp only [true_and, and_true] at e
 obtain ⟨rfl, rfl⟩ := e
 exact ⟨_, _, rfl, g1⟩
theorem infoImage : (Tryz.prog.info? 284).map (fun i => (i.zero, i.size, i.bytes)) = some (some (.agg zz14), 6, 88) := by kernel_rfl
def zeroImage : Array Value := zz14
theorem shImage_cost (x0 : ByteArray) (x1 : List ByteArray) (x2 : Bool) (x3 : ByteArray) (x4 : Bool) (x5 : ByteArray) : shImage.cost (x0, x1, x2, x3, x4, x5) = x0.size + ((Sh.row 9 shS).cost x1 + (0 + (x3.size + (0 + (x5.size))))) := rfl
theorem shImage_fit {m : Nat} (x0 : ByteArray) (x1 : List ByteArray) (x2 : Bool) (x3 : ByteArray) (x4 : Bool) (x5 : ByteArray) : shImage.fit m (x0, x1, x2, x3, x4, x5) ↔ x0.size ≤ m ∧ (Sh.row 9 shS).fit m x1 ∧ 0 ≤ m ∧ x3.size ≤ m ∧ 0 ≤ m ∧ x5.size ≤ m := Iff.rfl
theorem shImage_at {w : World} {lo hi : Nat} {A : Option Addr} {n c : Nat} {xs : List TyImage} {t : TypeId} (h : (Sh.row t shImage).R w lo hi [.slice A n c] xs) {j : Nat} (hj : j < n) :
  xs.length = n ∧ ∃ b off, A = some ⟨b, off, none⟩ ∧ lo ≤ b ∧ b < hi ∧ ∃ (A1 : Option Addr) (c1 : Nat), w.cell? ⟨b, off + j * 6, none⟩ = some (.string (xs.getD j shImage.d).1) ∧ w.cell? ⟨b, off + j * 6 + 1, none⟩ = some (.slice A1 (xs.getD j shImage.d).2.1.length c1) ∧ w.cell? ⟨b, off + j * 6 + 2, none⟩ = some (.bool (xs.getD j shImage.d).2.2.1) ∧ w.cell? ⟨b, off + j * 6 + 3, none⟩ = some (.string (xs.getD j shImage.d).2.2.2.1) ∧ w.cell? ⟨b, off + j * 6 + 4, none⟩ = some (.bool (xs.getD j shImage.d).2.2.2.2.1) ∧ w.cell? ⟨b, off + j * 6 + 5, none⟩ = some (.string (xs.getD j shImage.d).2.2.2.2.2) ∧ shImage.R w lo hi [.string (xs.getD j shImage.d).1, .slice A1 (xs.getD j shImage.d).2.1.length c1, .bool (xs.getD j shImage.d).2.2.1, .string (xs.getD j shImage.d).2.2.2.1, .bool (xs.getD j shImage.d).2.2.2.2.1, .string (xs.getD j shImage.d).2.2.2.2.2] (xs.getD j shImage.d) := by
 obtain ⟨A', c', e, h⟩ := h
 injection e with e _
 injection e with e1 e2 e3
 subst e1 e2
 obtain ⟨b, off, rfl, h1, h2, hc⟩ := h (by omega)
 obtain ⟨us, h3, h4⟩ := hc j hj
 have h5 := h4
 obtain ⟨A1, c1, rfl, _⟩ := shImage_R.1 h4
 exact ⟨rfl, b, off, rfl, h1, h2, A1, c1, h3 0 (by simp), h3 1 (by simp), h3 2 (by simp), h3 3 (by simp), h3 4 (by simp), h3 5 (by simp), h5⟩
abbrev TyParcel := Int × List TyImage
def shParcel : Sh TyParcel := Sh.prod (shI) (Sh.row 284 shImage)
theorem shParcel_R {w : World} {lo hi : Nat} {vs : List Value} {x0 : Int} {x1 : List TyImage} : shParcel.R w lo hi vs (x0, x1) ↔ ∃ A1 c1, vs = [.int .i64 x0, .slice A1 x1.length c1] ∧ RowG shImage w lo hi A1 x1 := by
 constructor
 ·rintro ⟨_, _, rfl, rfl, ⟨A1, c1, rfl, g1⟩⟩
  exact ⟨A1, c1, rfl, g1⟩
 ·rintro ⟨A1, c1, rfl, g1⟩
  exact ⟨[.int .i64 x0], [.slice A1 x1.length c1], rfl, rfl, ⟨A1, c1, rfl, g1⟩⟩
theorem shParcel_f1 {w : World} {lo hi : Nat} {x0 : Int} {x1 : List TyImage} {A1 : Option Addr} {c1 : Nat} (h : shParcel.R w lo hi [.int .i64 x0, .slice A1 x1.length c1] (x0, x1)) : (Sh.row 284 shImage).R w lo hi [.slice A1 x1.length c1] x1 := by
 obtain ⟨A1', c1', e, g1⟩ := shParcel_R.1 h
 simp only [List.cons.injEq, Value.slice.injEq] at e
 simp only [true_and, and_true] at e
 obtain ⟨rfl, rfl⟩ := e
 exact ⟨_, _, rfl, g1⟩
theorem infoParcel : (Tryz.prog.info? 187).map (fun i => (i.zero, i.size, i.bytes)) = some (some (.agg #[.int .i64 0, .slice none 0 0]), 2, 32) := by kernel_rfl
def zeroParcel : Array Value := #[.int .i64 0, .slice none 0 0]
theorem shParcel_cost (x0 : Int) (x1 : List TyImage) : shParcel.cost (x0, x1) = 0 + ((Sh.row 284 shImage).cost x1) := rfl
theorem shParcel_fit {m : Nat} (x0 : Int) (x1 : List TyImage) : shParcel.fit m (x0, x1) ↔ 0 ≤ m ∧ (Sh.row 284 shImage).fit m x1 := Iff.rfl
theorem shParcel_at {w : World} {lo hi : Nat} {A : Option Addr} {n c : Nat} {xs : List TyParcel} {t : TypeId} (h : (Sh.row t shParcel).R w lo hi [.slice A n c] xs) {j : Nat} (hj : j < n) :
  xs.length = n ∧ ∃ b off, A = some ⟨b, off, none⟩ ∧ lo ≤ b ∧ b < hi ∧ ∃ (A1 : Option Addr) (c1 : Nat), w.cell? ⟨b, off + j * 2, none⟩ = some (.int .i64 (xs.getD j shParcel.d).1) ∧ w.cell? ⟨b, off + j * 2 + 1, none⟩ = some (.slice A1 (xs.getD j shParcel.d).2.length c1) ∧ shParcel.R w lo hi [.int .i64 (xs.getD j shParcel.d).1, .slice A1 (xs.getD j shParcel.d).2.length c1] (xs.getD j shParcel.d) := by
 obtain ⟨A', c', e, h⟩ := h
 injection e with e _
 injection e with e1 e2 e3
 subst e1 e2
 obtain ⟨b, off, rfl, h1, h2, hc⟩ := h (by omega)
 obtain ⟨us, h3, h4⟩ := hc j hj
 have h5 := h4
 obtain ⟨A1, c1, rfl, _⟩ := shParcel_R.1 h4
 exact ⟨rfl, b, off, rfl, h1, h2, A1, c1, h3 0 (by simp), h3 1 (by simp), h5⟩
abbrev TyReplica := TyTree × Int × List TyParcel
def shReplica : Sh TyReplica := Sh.prod (shTree) (Sh.prod (shI) (Sh.row 187 shParcel))
theorem shReplica_R {w : World} {lo hi : Nat} {vs : List Value} {x0 : List TyNode} {x1 : Int} {x2 : List TyParcel} : shReplica.R w lo hi vs (x0, x1, x2) ↔ ∃ A0 c0, ∃ A2 c2, vs = [.slice A0 x0.length c0, .int .i64 x1, .slice A2 x2.length c2] ∧ RowG shNode w lo hi A0 x0 ∧ RowG shParcel w lo hi A2 x2 := by
 constructor
 ·rintro ⟨_, _, rfl, ⟨A0, c0, rfl, g0⟩, ⟨_, _, rfl, rfl, ⟨A2, c2, rfl, g2⟩⟩⟩
  exact ⟨A0, c0, A2, c2, rfl, g0, g2⟩
 ·rintro ⟨A0, c0, A2, c2, rfl, g0, g2⟩
  exact ⟨[.slice A0 x0.length c0], [.int .i64 x1, .slice A2 x2.length c2], rfl, ⟨A0, c0, rfl, g0⟩, ⟨[.int .i64 x1], [.slice A2 x2.length c2], rfl, rfl, ⟨A2, c2, rfl, g2⟩⟩⟩
theorem shReplica_f0 {w : World} {lo hi : Nat} {x0 : List TyNode} {x1 : Int} {x2 : List TyParcel} {A0 : Option Addr} {c0 : Nat} {A2 : Option Addr} {c2 : Nat} (h : shReplica.R w lo hi [.slice A0 x0.length c0, .int .i64 x1, .slice A2 x2.length c2] (x0, x1, x2)) : (shTree).R w lo hi [.slice A0 x0.length c0] x0 := by
 obtain ⟨A0', c0', A2', c2', e, g0, g2⟩ := shReplica_R.1 h
 simp only [List.cons.injEq, Value.slice.injEq] at e
 simp only [true_and, and_true] at e
 obtain ⟨⟨rfl, rfl⟩, ⟨rfl, rfl⟩⟩ := e
 exact shTree_R.2 ⟨_, _, rfl, g0⟩
theorem shReplica_f2 {w : World} {lo hi : Nat} {x0 : List TyNode} {x1 : Int} {x2 : List TyParcel} {A0 : Option Addr} {c0 : Nat} {A2 : Option Addr} {c2 : Nat} (h : shReplica.R w lo hi [.slice A0 x0.length c0, .int .i64 x1, .slice A2 x2.length c2] (x0, x1, x2)) : (Sh.row 187 shParcel).R w lo hi [.slice A2 x2.length c2] x2 := by
 obtain ⟨A0', c0', A2', c2', e, g0, g2⟩ := shReplica_R.1 h
 simp only [List.cons.injEq, Value.slice.injEq] at e
 simp only [true_and, and_true] at e
 obtain ⟨⟨rfl, rfl⟩, ⟨rfl, rfl⟩⟩ := e
 exact ⟨_, _, rfl, g2⟩
theorem shReplica_cost (x0 : List TyNode) (x1 : Int) (x2 : List TyParcel) : shReplica.cost (x0, x1, x2) = (shTree).cost x0 + (0 + ((Sh.row 187 shParcel).cost x2)) := rfl
theorem shReplica_fit {m : Nat} (x0 : List TyNode) (x1 : Int) (x2 : List TyParcel) : shReplica.fit m (x0, x1, x2) ↔ (shTree).fit m x0 ∧ 0 ≤ m ∧ (Sh.row 187 shParcel).fit m x2 := Iff.rfl
end Go.Proofs.YtgnmollbnopigaaGreat
/- Sites: walks field by field (sh). Printed by gen_big.py. -/
namespace Go.Proofs.YtgnmollbnopigaaGreat
open Go.RowKit
abbrev TySites := TySite × TyReplica × (List ByteArray) × Int
def shSites : Sh TySites := Sh.prod shSite (Sh.prod shReplica (Sh.prod (Sh.row 9 shS) (shI)))
theorem sizeLSites : (Tryz.prog.info? 98).map (·.size) = some shSites.k := by kernel_rfl
theorem sizeISites : (Tryz.prog.info? 105).map (·.size) = some shSites.k := by kernel_rfl
end Go.Proofs.YtgnmollbnopigaaGreat
