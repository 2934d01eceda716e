/- Machine, Trans, Program, Tree, Locks, Disk, Top, Btree, Journal, Cache: walks field by field (o). Printed by gen_big.py. -/
import Derived.Test.YtgnmollbnopigaaGreatJoinSSAp
import Derived.Test.YtgnmollbnopigaaGreatJoinSSAq
import Derived.Test.YtgnmollbnopigaaGreatJoinSSAr
import Derived.Test.YtgnmollbnopigaaGreatJoinSSAs
import Derived.Test.YtgnmollbnopigaaGreatJoinSSAt
set_option maxHeartbeats 16000000
set_option maxRecDepth 100000
namespace Go.Proofs.YtgnmollbnopigaaGreat
open Go.RowKit
theorem sizeLMachine : (Tryz.prog.info? 212).map (·.size) = some shMachine.k := by kernel_rfl
theorem sizeIMachine : (Tryz.prog.info? 154).map (·.size) = some shMachine.k := by kernel_rfl
theorem szMachine_o (X : TyMachine) (vs : List Value) (lo hi : Nat) (left : Int) (w : World) (h : shMachine.R w lo hi vs X) (hhi : hi ≤ w.heap.size) (hf : shMachine.fit 9223372036854775807 X) (hl0 : 0 ≤ left) (hl : left ≤ 1048576) :
  Calls Tryz.prog 178 #[.agg vs.toArray, .int .i64 left] w fun e w' => ∃ m, e = .returned (.int .i64 m) ∧ Left left (shMachine.cost X) m ∧ Below w.heap.size w w' := by
 obtain ⟨x0, x1, x2, x3, x4, x5, x6, ⟨x7, x8, x9, x10⟩, x11, x12, ⟨x13, x14, x15⟩, x16, x17, x18, x19, x20⟩ := X
 have h0 := h
 obtain ⟨A2, c2, A3, c3, A4, c4, A5, c5, A6, c6, A8, c8, A9, c9, A10, c10, A15, c15, rfl, _⟩ := shMachine_R.1 h0
 exact szMachine_f x0 x1 x2 x3 x4 x5 x6 x7 x8 x9 x10 x11 x12 x13 x14 x15 x16 x17 x18 x19 x20 A2 c2 A3 c3 A4 c4 A5 c5 A6 c6 A8 c8 A9 c9 A10 c10 A15 c15 lo hi left w h hhi hf hl0 hl
theorem toMachine_o (X : TyMachine) (vs : List Value) (lo hi : Nat) (w : World) (h : shMachine.R w lo hi vs X) (hhi : hi ≤ w.heap.size) (hf : shMachine.fit 1048576 X) :
  Calls Tryz.prog 189 #[.agg vs.toArray] w fun e w' => ∃ us : List Value, e = .returned (.agg us.toArray) ∧ shMachine.R w' w.heap.size w'.heap.size us X ∧ Below w.heap.size w w' := by
 obtain ⟨x0, x1, x2, x3, x4, x5, x6, ⟨x7, x8, x9, x10⟩, x11, x12, ⟨x13, x14, x15⟩, x16, x17, x18, x19, x20⟩ := X
 have h0 := h
 obtain ⟨A2, c2, A3, c3, A4, c4, A5, c5, A6, c6, A8, c8, A9, c9, A10, c10, A15, c15, rfl, _⟩ := shMachine_R.1 h0
 refine (toMachine_f x0 x1 x2 x3 x4 x5 x6 x7 x8 x9 x10 x11 x12 x13 x14 x15 x16 x17 x18 x19 x20 A2 c2 A3 c3 A4 c4 A5 c5 A6 c6 A8 c8 A9 c9 A10 c10 A15 c15 lo hi w h hhi hf).mono ?_
 rintro e w' ⟨B2, d2, B3, d3, B4, d4, B5, d5, B6, d6, B8, d8, B9, d9, B10, d10, B15, d15, rfl, ho, hb⟩
 exact ⟨_, rfl, ho.reads, hb⟩
theorem eqMachine_o (X : TyMachine) (vs us : List Value) (lo hi lo' hi' : Nat) (w : World) (h : shMachine.R w lo hi vs X) (h' : shMachine.R w lo' hi' us X) (hhi : hi ≤ w.heap.size) (hhi' : hi' ≤ w.heap.size) (hf : shMachine.fit 4294967296 X) :
  Calls Tryz.prog 206 #[.agg vs.toArray, .agg us.toArray] w fun e w' => e = .returned (.bool true) ∧ Below w.heap.size w w' := by
 obtain ⟨x0, x1, x2, x3, x4, x5, x6, ⟨x7, x8, x9, x10⟩, x11, x12, ⟨x13, x14, x15⟩, x16, x17, x18, x19, x20⟩ := X
 have h0 := h; have h1 := h'
 obtain ⟨A2, c2, A3, c3, A4, c4, A5, c5, A6, c6, A8, c8, A9, c9, A10, c10, A15, c15, rfl, _⟩ := shMachine_R.1 h0
 obtain ⟨B2, d2, B3, d3, B4, d4, B5, d5, B6, d6, B8, d8, B9, d9, B10, d10, B15, d15, rfl, _⟩ := shMachine_R.1 h1
 exact eqMachine_f x0 x1 x2 x3 x4 x5 x6 x7 x8 x9 x10 x11 x12 x13 x14 x15 x16 x17 x18 x19 x20 A2 c2 A3 c3 A4 c4 A5 c5 A6 c6 A8 c8 A9 c9 A10 c10 A15 c15 B2 d2 B3 d3 B4 d4 B5 d5 B6 d6 B8 d8 B9 d9 B10 d10 B15 d15 lo hi lo' hi' w h h' hhi hhi' hf
theorem sizeLTrans : (Tryz.prog.info? 214).map (·.size) = some shTrans.k := by kernel_rfl
theorem sizeITrans : (Tryz.prog.info? 157).map (·.size) = some shTrans.k := by kernel_rfl
theorem szTrans_o (X : TyTrans) (vs : List Value) (lo hi : Nat) (left : Int) (w : World) (h : shTrans.R w lo hi vs X) (hhi : hi ≤ w.heap.size) (hf : shTrans.fit 9223372036854775807 X) (hl0 : 0 ≤ left) (hl : left ≤ 1048576) :
  Calls Tryz.prog 179 #[.agg vs.toArray, .int .i64 left] w fun e w' => ∃ m, e = .returned (.int .i64 m) ∧ Left left (shTrans.cost X) m ∧ Below w.heap.size w w' := by
 obtain ⟨x0, x1, x2⟩ := X
 have h0 := h
 obtain ⟨A2, c2, rfl, _⟩ := shTrans_R.1 h0
 exact szTrans_f x0 x1 x2 A2 c2 lo hi left w h hhi hf hl0 hl
theorem toTrans_o (X : TyTrans) (vs : List Value) (lo hi : Nat) (w : World) (h : shTrans.R w lo hi vs X) (hhi : hi ≤ w.heap.size) (hf : shTrans.fit 1048576 X) :
  Calls Tryz.prog 190 #[.agg vs.toArray] w fun e w' => ∃ us : List Value, e = .returned (.agg us.toArray) ∧ shTrans.R w' w.heap.size w'.heap.size us X ∧ Below w.heap.size w w' := by
 obtain ⟨x0, x1, x2⟩ := X
 have h0 := h
 obtain ⟨A2, c2, rfl, _⟩ := shTrans_R.1 h0
 refine (toTrans_f x0 x1 x2 A2 c2 lo hi w h hhi hf).mono ?_
 rintro e w' ⟨B2, d2, rfl, ho, hb⟩
 exact ⟨_, rfl, ho.reads, hb⟩
theorem eqTrans_o (X : TyTrans) (vs us : List Value) (lo hi lo' hi' : Nat) (w : World) (h : shTrans.R w lo hi vs X) (h' : shTrans.R w lo' hi' us X) (hhi : hi ≤ w.heap.size) (hhi' : hi' ≤ w.heap.size) (hf : shTrans.fit 4294967296 X) :
  Calls Tryz.prog 207 #[.agg vs.toArray, .agg us.toArray] w fun e w' => e = .returned (.bool true) ∧ Below w.heap.size w w' := by
 obtain ⟨x0, x1, x2⟩ := X
 have h0 := h; have h1 := h'
 obtain ⟨A2, c2, rfl, _⟩ := shTrans_R.1 h0
 obtain ⟨B2, d2, rfl, _⟩ := shTrans_R.1 h1
 exact eqTrans_f x0 x1 x2 A2 c2 B2 d2 lo hi lo' hi' w h h' hhi hhi' hf
theorem sizeLProgram : (Tryz.prog.info? 25).map (·.size) = some shProgram.k := by kernel_rfl
theorem sizeIProgram : (Tryz.prog.info? 62).map (·.size) = some shProgram.k := by kernel_rfl
theorem szProgram_o (X : TyProgram) (vs : List Value) (lo hi : Nat) (left : Int) (w : World) (h : shProgram.R w lo hi vs X) (hhi : hi ≤ w.heap.size) (hf : shProgram.fit 9223372036854775807 X) (hl0 : 0 ≤ left) (hl : left ≤ 1048576) :
  Calls Tryz.prog 45 #[.agg vs.toArray, .int .i64 left] w fun e w' => ∃ m, e = .returned (.int .i64 m) ∧ Left left (shProgram.cost X) m ∧ Below w.heap.size w w' := by
 obtain ⟨x0, x1⟩ := X
 have h0 := h
 obtain ⟨A0, c0, A1, c1, rfl, _⟩ := shProgram_R.1 h0
 exact szProgram_f x0 x1 A0 c0 A1 c1 lo hi left w h hhi hf hl0 hl
theorem toProgram_o (X : TyProgram) (vs : List Value) (lo hi : Nat) (w : World) (h : shProgram.R w lo hi vs X) (hhi : hi ≤ w.heap.size) (hf : shProgram.fit 1048576 X) :
  Calls Tryz.prog 63 #[.agg vs.toArray] w fun e w' => ∃ us : List Value, e = .returned (.agg us.toArray) ∧ shProgram.R w' w.heap.size w'.heap.size us X ∧ Below w.heap.size w w' := by
 obtain ⟨x0, x1⟩ := X
 have h0 := h
 obtain ⟨A0, c0, A1, c1, rfl, _⟩ := shProgram_R.1 h0
 refine (toProgram_f x0 x1 A0 c0 A1 c1 lo hi w h hhi hf).mono ?_
 rintro e w' ⟨B0, d0, B1, d1, rfl, ho, hb⟩
 exact ⟨_, rfl, ho.reads, hb⟩
theorem eqProgram_o (X : TyProgram) (vs us : List Value) (lo hi lo' hi' : Nat) (w : World) (h : shProgram.R w lo hi vs X) (h' : shProgram.R w lo' hi' us X) (hhi : hi ≤ w.heap.size) (hhi' : hi' ≤ w.heap.size) (hf : shProgram.fit 4294967296 X) :
  Calls Tryz.prog 85 #[.agg vs.toArray, .agg us.toArray] w fun e w' => e = .returned (.bool true) ∧ Below w.heap.size w w' := by
 obtain ⟨x0, x1⟩ := X
 have h0 := h; have h1 := h'
 obtain ⟨A0, c0, A1, c1, rfl, _⟩ := shProgram_R.1 h0
 obtain ⟨B0, d0, B1, d1, rfl, _⟩ := shProgram_R.1 h1
 exact eqProgram_f x0 x1 A0 c0 A1 c1 B0 d0 B1 d1 lo hi lo' hi' w h h' hhi hhi' hf
theorem sizeLTree : (Tryz.prog.info? 29).map (·.size) = some shTree.k := by kernel_rfl
theorem sizeITree : (Tryz.prog.info? 66).map (·.size) = some shTree.k := by kernel_rfl
theorem szTree_o (X : TyTree) (vs : List Value) (lo hi : Nat) (left : Int) (w : World) (h : shTree.R w lo hi vs X) (hhi : hi ≤ w.heap.size) (hf : shTree.fit 9223372036854775807 X) (hl0 : 0 ≤ left) (hl : left ≤ 1048576) :
  Calls Tryz.prog 17 #[.agg vs.toArray, .int .i64 left] w fun e w' => ∃ m, e = .returned (.int .i64 m) ∧ Left left (shTree.cost X) m ∧ Below w.heap.size w w' := by
 have h0 := h
 obtain ⟨A0, c0, rfl, _⟩ := shTree_R.1 h0
 exact szTree_f X A0 c0 lo hi left w h hhi hf hl0 hl
theorem toTree_o (X : TyTree) (vs : List Value) (lo hi : Nat) (w : World) (h : shTree.R w lo hi vs X) (hhi : hi ≤ w.heap.size) (hf : shTree.fit 1048576 X) :
  Calls Tryz.prog 25 #[.agg vs.toArray] w fun e w' => ∃ us : List Value, e = .returned (.agg us.toArray) ∧ shTree.R w' w.heap.size w'.heap.size us X ∧ Below w.heap.size w w' := by
 have h0 := h
 obtain ⟨A0, c0, rfl, _⟩ := shTree_R.1 h0
 refine (toTree_f X A0 c0 lo hi w h hhi hf).mono ?_
 rintro e w' ⟨B0, d0, rfl, ho, hb⟩
 exact ⟨_, rfl, ho.reads, hb⟩
theorem eqTree_o (X : TyTree) (vs us : List Value) (lo hi lo' hi' : Nat) (w : World) (h : shTree.R w lo hi vs X) (h' : shTree.R w lo' hi' us X) (hhi : hi ≤ w.heap.size) (hhi' : hi' ≤ w.heap.size) (hf : shTree.fit 4294967296 X) :
  Calls Tryz.prog 33 #[.agg vs.toArray, .agg us.toArray] w fun e w' => e = .returned (.bool true) ∧ Below w.heap.size w w' := by
 have h0 := h; have h1 := h'
 obtain ⟨A0, c0, rfl, _⟩ := shTree_R.1 h0
 obtain ⟨B0, d0, rfl, _⟩ := shTree_R.1 h1
 exact eqTree_f X A0 c0 B0 d0 lo hi lo' hi' w h h' hhi hhi' hf
theorem sizeLLocks : (Tryz.prog.info? 33).map (·.size) = some shLocks.k := by kernel_rfl
theorem sizeILocks : (Tryz.prog.info? 70).map (·.size) = some shLocks.k := by kernel_rfl
theorem szLocks_o (X : TyLocks) (vs : List Value) (lo hi : Nat) (left : Int) (w : World) (h : shLocks.R w lo hi vs X) (hhi : hi ≤ w.heap.size) (hf : shLocks.fit 9223372036854775807 X) (hl0 : 0 ≤ left) (hl : left ≤ 1048576) :
  Calls Tryz.prog 47 #[.agg vs.toArray, .int .i64 left] w fun e w' => ∃ m, e = .returned (.int .i64 m) ∧ Left left (shLocks.cost X) m ∧ Below w.heap.size w w' := by
 obtain ⟨x0, x1⟩ := X
 have h0 := h
 obtain ⟨A0, c0, A1, c1, rfl, _⟩ := shLocks_R.1 h0
 exact szLocks_f x0 x1 A0 c0 A1 c1 lo hi left w h hhi hf hl0 hl
theorem toLocks_o (X : TyLocks) (vs : List Value) (lo hi : Nat) (w : World) (h : shLocks.R w lo hi vs X) (hhi : hi ≤ w.heap.size) (hf : shLocks.fit 1048576 X) :
  Calls Tryz.prog 65 #[.agg vs.toArray] w fun e w' => ∃ us : List Value, e = .returned (.agg us.toArray) ∧ shLocks.R w' w.heap.size w'.heap.size us X ∧ Below w.heap.size w w' := by
 obtain ⟨x0, x1⟩ := X
 have h0 := h
 obtain ⟨A0, c0, A1, c1, rfl, _⟩ := shLocks_R.1 h0
 refine (toLocks_f x0 x1 A0 c0 A1 c1 lo hi w h hhi hf).mono ?_
 rintro e w' ⟨B0, d0, B1, d1, rfl, ho, hb⟩
 exact ⟨_, rfl, ho.reads, hb⟩
theorem eqLocks_o (X : TyLocks) (vs us : List Value) (lo hi lo' hi' : Nat) (w : World) (h : shLocks.R w lo hi vs X) (h' : shLocks.R w lo' hi' us X) (hhi : hi ≤ w.heap.size) (hhi' : hi' ≤ w.heap.size) (hf : shLocks.fit 4294967296 X) :
  Calls Tryz.prog 87 #[.agg vs.toArray, .agg us.toArray] w fun e w' => e = .returned (.bool true) ∧ Below w.heap.size w w' := by
 obtain ⟨x0, x1⟩ := X
 have h0 := h; have h1 := h'
 obtain ⟨A0, c0, A1, c1, rfl, _⟩ := shLocks_R.1 h0
 obtain ⟨B0, d0, B1, d1, rfl, _⟩ := shLocks_R.1 h1
 exact eqLocks_f x0 x1 A0 c0 A1 c1 B0 d0 B1 d1 lo hi lo' hi' w h h' hhi hhi' hf
theorem sizeLDisk : (Tryz.prog.info? 44).map (·.size) = some shDisk.k := by kernel_rfl
theorem sizeIDisk : (Tryz.prog.info? 80).map (·.size) = some shDisk.k := by kernel_rfl
theorem toDisk_o (X : TyDisk) (vs : List Value) (lo hi : Nat) (w : World) (h : shDisk.R w lo hi vs X) (hhi : hi ≤ w.heap.size) (hf : shDisk.fit 1048576 X) :
  Calls Tryz.prog 130 #[.agg vs.toArray] w fun e w' => ∃ us : List Value, e = .returned (.agg us.toArray) ∧ shDisk.R w' w.heap.size w'.heap.size us X ∧ Below w.heap.size w w' := by
 obtain ⟨x0, x1, x2⟩ := X
 have h0 := h
 obtain ⟨A1, c1, A2, c2, rfl, _⟩ := shDisk_R.1 h0
 refine (toDisk_f x0 x1 x2 A1 c1 A2 c2 lo hi w h hhi hf).mono ?_
 rintro e w' ⟨B1, d1, B2, d2, rfl, ho, hb⟩
 exact ⟨_, rfl, ho.reads, hb⟩
theorem sizeLTop : (Tryz.prog.info? 47).map (·.size) = some shTop.k := by kernel_rfl
theorem sizeITop : (Tryz.prog.info? 83).map (·.size) = some shTop.k := by kernel_rfl
theorem toTop_o (X : TyTop) (vs : List Value) (lo hi : Nat) (w : World) (h : shTop.R w lo hi vs X) (hhi : hi ≤ w.heap.size) (hf : shTop.fit 1048576 X) :
  Calls Tryz.prog 131 #[.agg vs.toArray] w fun e w' => ∃ us : List Value, e = .returned (.agg us.toArray) ∧ shTop.R w' w.heap.size w'.heap.size us X ∧ Below w.heap.size w w' := by
 obtain ⟨x0, x1, x2, x3⟩ := X
 have h0 := h
 obtain ⟨A3, c3, rfl, _⟩ := shTop_R.1 h0
 refine (toTop_f x0 x1 x2 x3 A3 c3 lo hi w h hhi hf).mono ?_
 rintro e w' ⟨B3, d3, rfl, ho, hb⟩
 exact ⟨_, rfl, ho.reads, hb⟩
theorem sizeLBtree : (Tryz.prog.info? 40).map (·.size) = some shBtree.k := by kernel_rfl
theorem sizeIBtree : (Tryz.prog.info? 77).map (·.size) = some shBtree.k := by kernel_rfl
theorem szBtree_o (X : TyBtree) (vs : List Value) (lo hi : Nat) (left : Int) (w : World) (h : shBtree.R w lo hi vs X) (hhi : hi ≤ w.heap.size) (hf : shBtree.fit 9223372036854775807 X) (hl0 : 0 ≤ left) (hl : left ≤ 1048576) :
  Calls Tryz.prog 49 #[.agg vs.toArray, .int .i64 left] w fun e w' => ∃ m, e = .returned (.int .i64 m) ∧ Left left (shBtree.cost X) m ∧ Below w.heap.size w w' := by
 obtain ⟨x0, x1⟩ := X
 have h0 := h
 obtain ⟨A1, c1, rfl, _⟩ := shBtree_R.1 h0
 exact szBtree_f x0 x1 A1 c1 lo hi left w h hhi hf hl0 hl
theorem toBtree_o (X : TyBtree) (vs : List Value) (lo hi : Nat) (w : World) (h : shBtree.R w lo hi vs X) (hhi : hi ≤ w.heap.size) (hf : shBtree.fit 1048576 X) :
  Calls Tryz.prog 67 #[.agg vs.toArray] w fun e w' => ∃ us : List Value, e = .returned (.agg us.toArray) ∧ shBtree.R w' w.heap.size w'.heap.size us X ∧ Below w.heap.size w w' := by
 obtain ⟨x0, x1⟩ := X
 have h0 := h
 obtain ⟨A1, c1, rfl, _⟩ := shBtree_R.1 h0
 refine (toBtree_f x0 x1 A1 c1 lo hi w h hhi hf).mono ?_
 rintro e w' ⟨B1, d1, rfl, ho, hb⟩
 exact ⟨_, rfl, ho.reads, hb⟩
theorem eqBtree_o (X : TyBtree) (vs us : List Value) (lo hi lo' hi' : Nat) (w : World) (h : shBtree.R w lo hi vs X) (h' : shBtree.R w lo' hi' us X) (hhi : hi ≤ w.heap.size) (hhi' : hi' ≤ w.heap.size) (hf : shBtree.fit 4294967296 X) :
  Calls Tryz.prog 89 #[.agg vs.toArray, .agg us.toArray] w fun e w' => e = .returned (.bool true) ∧ Below w.heap.size w w' := by
 obtain ⟨x0, x1⟩ := X
 have h0 := h; have h1 := h'
 obtain ⟨A1, c1, rfl, _⟩ := shBtree_R.1 h0
 obtain ⟨B1, d1, rfl, _⟩ := shBtree_R.1 h1
 exact eqBtree_f x0 x1 A1 c1 B1 d1 lo hi lo' hi' w h h' hhi hhi' hf
theorem sizeLJournal : (Tryz.prog.info? 52).map (·.size) = some shJournal.k := by kernel_rfl
theorem sizeIJournal : (Tryz.prog.info? 87).map (·.size) = some shJournal.k := by kernel_rfl
theorem szJournal_o (X : TyJournal) (vs : List Value) (lo hi : Nat) (left : Int) (w : World) (h : shJournal.R w lo hi vs X) (hhi : hi ≤ w.heap.size) (hf : shJournal.fit 9223372036854775807 X) (hl0 : 0 ≤ left) (hl : left ≤ 1048576) :
  Calls Tryz.prog 51 #[.agg vs.toArray, .int .i64 left] w fun e w' => ∃ m, e = .returned (.int .i64 m) ∧ Left left (shJournal.cost X) m ∧ Below w.heap.size w w' := by
 obtain ⟨⟨x0, x1, x2⟩, x3, x4, x5, x6⟩ := X
 have h0 := h
 obtain ⟨A1, c1, A2, c2, rfl, _⟩ := shJournal_R.1 h0
 exact szJournal_f x0 x1 x2 x3 x4 x5 x6 A1 c1 A2 c2 lo hi left w h hhi hf hl0 hl
theorem toJournal_o (X : TyJournal) (vs : List Value) (lo hi : Nat) (w : World) (h : shJournal.R w lo hi vs X) (hhi : hi ≤ w.heap.size) (hf : shJournal.fit 1048576 X) :
  Calls Tryz.prog 69 #[.agg vs.toArray] w fun e w' => ∃ us : List Value, e = .returned (.agg us.toArray) ∧ shJournal.R w' w.heap.size w'.heap.size us X ∧ Below w.heap.size w w' := by
 obtain ⟨⟨x0, x1, x2⟩, x3, x4, x5, x6⟩ := X
 have h0 := h
 obtain ⟨A1, c1, A2, c2, rfl, _⟩ := shJournal_R.1 h0
 refine (toJournal_f x0 x1 x2 x3 x4 x5 x6 A1 c1 A2 c2 lo hi w h hhi hf).mono ?_
 rintro e w' ⟨B1, d1, B2, d2, rfl, ho, hb⟩
 exact ⟨_, rfl, ho.reads, hb⟩
theorem eqJournal_o (X : TyJournal) (vs us : List Value) (lo hi lo' hi' : Nat) (w : World) (h : shJournal.R w lo hi vs X) (h' : shJournal.R w lo' hi' us X) (hhi : hi ≤ w.heap.size) (hhi' : hi' ≤ w.heap.size) (hf : shJournal.fit 4294967296 X) :
  Calls Tryz.prog 91 #[.agg vs.toArray, .agg us.toArray] w fun e w' => e = .returned (.bool true) ∧ Below w.heap.size w w' := by
 obtain ⟨⟨x0, x1, x2⟩, x3, x4, x5, x6⟩ := X
 have h0 := h; have h1 := h'
 obtain ⟨A1, c1, A2, c2, rfl, _⟩ := shJournal_R.1 h0
 obtain ⟨B1, d1, B2, d2, rfl, _⟩ := shJournal_R.1 h1
 exact eqJournal_f x0 x1 x2 x3 x4 x5 x6 A1 c1 A2 c2 B1 d1 B2 d2 lo hi lo' hi' w h h' hhi hhi' hf
theorem sizeLCache : (Tryz.prog.info? 50).map (·.size) = some shCache.k := by kernel_rfl
theorem sizeICache : (Tryz.prog.info? 85).map (·.size) = some shCache.k := by kernel_rfl
theorem szCache_o (X : TyCache) (vs : List Value) (lo hi : Nat) (left : Int) (w : World) (h : shCache.R w lo hi vs X) (hhi : hi ≤ w.heap.size) (hf : shCache.fit 9223372036854775807 X) (hl0 : 0 ≤ left) (hl : left ≤ 1048576) :
  Calls Tryz.prog 50 #[.agg vs.toArray, .int .i64 left] w fun e w' => ∃ m, e = .returned (.int .i64 m) ∧ Left left (shCache.cost X) m ∧ Below w.heap.size w w' := by
 obtain ⟨⟨x0, x1, x2⟩, ⟨x3, x4, x5, x6⟩, ⟨x7, x8, x9, x10⟩, x11, x12⟩ := X
 have h0 := h
 obtain ⟨A1, c1, A2, c2, A6, c6, A10, c10, A11, c11, A12, c12, rfl, _⟩ := shCache_R.1 h0
 exact szCache_f x0 x1 x2 x3 x4 x5 x6 x7 x8 x9 x10 x11 x12 A1 c1 A2 c2 A6 c6 A10 c10 A11 c11 A12 c12 lo hi left w h hhi hf hl0 hl
theorem eqCache_o (X : TyCache) (vs us : List Value) (lo hi lo' hi' : Nat) (w : World) (h : shCache.R w lo hi vs X) (h' : shCache.R w lo' hi' us X) (hhi : hi ≤ w.heap.size) (hhi' : hi' ≤ w.heap.size) (hf : shCache.fit 4294967296 X) :
  Calls Tryz.prog 90 #[.agg vs.toArray, .agg us.toArray] w fun e w' => e = .returned (.bool true) ∧ Below w.heap.size w w' := by
 obtain ⟨⟨x0, x1, x2⟩, ⟨x3, x4, x5, x6⟩, ⟨x7, x8, x9, x10⟩, x11, x12⟩ := X
 have h0 := h; have h1 := h'
 obtain ⟨A1, c1, A2, c2, A6, c6, A10, c10, A11, c11, A12, c12, rfl, _⟩ := shCache_R.1 h0
 obtain ⟨B1, d1, B2, d2, B6, d6, B10, d10, B11, d11, B12, d12, rfl, _⟩ := shCache_R.1 h1
 exact eqCache_f x0 x1 x2 x3 x4 x5 x6 x7 x8 x9 x10 x11 x12 A1 c1 A2 c2 A6 c6 A10 c10 A11 c11 A12 c12 B1 d1 B2 d2 B6 d6 B10 d10 B11 d11 B12 d12 lo hi lo' hi' w h h' hhi hhi' hf
end Go.Proofs.YtgnmollbnopigaaGreat
