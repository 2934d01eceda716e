/- Node, Tree, Bind, Cell, Level, Given, Locals, Ref, Loop, Frame: shapes and the laws' walks (sh). Printed by gen_fam.py. -/
import Derived.Test.YtgnmollbnopigaaGreatJoinSTAf
namespace Go.Proofs.YtgnmollbnopigaaGreat
open Go.RowKit
abbrev TyNode := ByteArray × List ByteArray × ByteArray
def shNode : Sh TyNode := Sh.prod (shS) (Sh.prod (Sh.row 9 shS) (shS))
theorem shNode_R {w : World} {lo hi : Nat} {vs : List Value} {x0 : ByteArray} {x1 : List ByteArray} {x2 : ByteArray} : shNode.R w lo hi vs (x0, x1, x2) ↔ ∃ A1 c1, vs = [.string x0, .slice A1 x1.length c1, .string x2] ∧ RowG shS w lo hi A1 x1 := by
 constructor
 ·rintro ⟨_, _, rfl, rfl, ⟨_, _, rfl, ⟨A1, c1, rfl, g1⟩, rfl⟩⟩
  exact ⟨A1, c1, rfl, g1⟩
 ·rintro ⟨A1, c1, rfl, g1⟩
  exact ⟨[.string x0], [.slice A1 x1.length c1, .string x2], rfl, rfl, ⟨[.slice A1 x1.length c1], [.string x2], rfl, ⟨A1, c1, rfl, g1⟩, rfl⟩⟩
theorem shNode_f1 {w : World} {lo hi : Nat} {x0 : ByteArray} {x1 : List ByteArray} {x2 : ByteArray} {A1 : Option Addr} {c1 : Nat} (h : shNode.R w lo hi [.string x0, .slice A1 x1.length c1, .string x2] (x0, x1, x2)) : (Sh.row 9 shS).R w lo hi [.slice A1 x1.length c1] x1 := by
 obtain ⟨A1', c1', e, g1⟩ := shNode_R.1 h
 simp only [List.cons.injEq, Value.slice.injEq] at e
 simp only [true_and, and_true] at e
 obtain ⟨rfl, rfl⟩ := e
 exact ⟨_, _, rfl, g1⟩
theorem infoNode : (Tryz.prog.info? 165).map (fun i => (i.zero, i.size, i.bytes)) = some (some (.agg #[.string ⟨#[]⟩, .slice none 0 0, .string ⟨#[]⟩]), 3, 56) := by kernel_rfl
def zeroNode : Array Value := #[.string ⟨#[]⟩, .slice none 0 0, .string ⟨#[]⟩]
theorem shNode_cost (x0 : ByteArray) (x1 : List ByteArray) (x2 : ByteArray) : shNode.cost (x0, x1, x2) = x0.size + ((Sh.row 9 shS).cost x1 + (x2.size)) := rfl
theorem shNode_fit {m : Nat} (x0 : ByteArray) (x1 : List ByteArray) (x2 : ByteArray) : shNode.fit m (x0, x1, x2) ↔ x0.size ≤ m ∧ (Sh.row 9 shS).fit m x1 ∧ x2.size ≤ m := Iff.rfl
theorem shNode_at {w : World} {lo hi : Nat} {A : Option Addr} {n c : Nat} {xs : List TyNode} {t : TypeId} (h : (Sh.row t shNode).R w lo hi [.slice A n c] xs) {j : Nat} (hj : j < n) :
  xs.length = n ∧ ∃ b off, A = some ⟨b, off, none⟩ ∧ lo ≤ b ∧ b < hi ∧ ∃ (A1 : Option Addr) (c1 : Nat), w.cell? ⟨b, off + j * 3, none⟩ = some (.string (xs.getD j shNode.d).1) ∧ w.cell? ⟨b, off + j * 3 + 1, none⟩ = some (.slice A1 (xs.getD j shNode.d).2.1.length c1) ∧ w.cell? ⟨b, off + j * 3 + 2, none⟩ = some (.string (xs.getD j shNode.d).2.2) ∧ shNode.R w lo hi [.string (xs.getD j shNode.d).1, .slice A1 (xs.getD j shNode.d).2.1.length c1, .string (xs.getD j shNode.d).2.2] (xs.getD j shNode.d) := by
 obtain ⟨A', c', e, h⟩ := h
 injection e with e _
 injection e with e1 e2 e3
 subst e1 e2
 obtain ⟨b, off, rfl, h1, h2, hc⟩ := h (by omega)
 obtain ⟨us, h3, h4⟩ := hc j hj
 have h5 := h4
 obtain ⟨A1, c1, rfl, _⟩ := shNode_R.1 h4
 exact ⟨rfl, b, off, rfl, h1, h2, A1, c1, h3 0 (by simp), h3 1 (by simp), h3 2 (by simp), h5⟩
abbrev TyTree := List TyNode
def shTree : Sh TyTree := Sh.row 165 shNode
theorem shTree_R {w : World} {lo hi : Nat} {vs : List Value} {x0 : List TyNode} : shTree.R w lo hi vs x0 ↔ ∃ A0 c0, vs = [.slice A0 x0.length c0] ∧ RowG shNode w lo hi A0 x0 := by
 constructor
 ·rintro ⟨A0, c0, rfl, g0⟩
  exact ⟨A0, c0, rfl, g0⟩
 ·rintro ⟨A0, c0, rfl, g0⟩
  exact ⟨A0, c0, rfl, g0⟩
theorem shTree_f0 {w : World} {lo hi : Nat} {x0 : List TyNode} {A0 : Option Addr} {c0 : Nat} (h : shTree.R w lo hi [.slice A0 x0.length c0] x0) : (Sh.row 165 shNode).R w lo hi [.slice A0 x0.length c0] x0 := by
 obtain ⟨A0', c0', e, g0⟩ := shTree_R.1 h
 simp only [List.cons.injEq, Value.slice.injEq] at e
 simp only [true_and, and_true] at e
 obtain ⟨rfl, rfl⟩ := e
 exact ⟨_, _, rfl, g0⟩
theorem shTree_cost (x0 : List TyNode) : shTree.cost x0 = (Sh.row 165 shNode).cost x0 := rfl
theorem shTree_fit {m : Nat} (x0 : List TyNode) : shTree.fit m x0 ↔ (Sh.row 165 shNode).fit m x0 := Iff.rfl
abbrev TyBind := ByteArray × Int
def shBind : Sh TyBind := Sh.prod (shS) (shI)
theorem shBind_R {w : World} {lo hi : Nat} {vs : List Value} {x0 : ByteArray} {x1 : Int} : shBind.R w lo hi vs (x0, x1) ↔ vs = [.string x0, .int .i64 x1] := by
 constructor
 ·rintro ⟨_, _, rfl, rfl, rfl⟩
  exact rfl
 ·rintro rfl
  exact ⟨[.string x0], [.int .i64 x1], rfl, rfl, rfl⟩
theorem infoBind : (Tryz.prog.info? 359).map (fun i => (i.zero, i.size, i.bytes)) = some (some (.agg #[.string ⟨#[]⟩, .int .i64 0]), 2, 24) := by kernel_rfl
def zeroBind : Array Value := #[.string ⟨#[]⟩, .int .i64 0]
theorem shBind_cost (x0 : ByteArray) (x1 : Int) : shBind.cost (x0, x1) = x0.size + (0) := rfl
theorem shBind_fit {m : Nat} (x0 : ByteArray) (x1 : Int) : shBind.fit m (x0, x1) ↔ x0.size ≤ m ∧ 0 ≤ m := Iff.rfl
theorem shBind_at {w : World} {lo hi : Nat} {A : Option Addr} {n c : Nat} {xs : List TyBind} {t : TypeId} (h : (Sh.row t shBind).R w lo hi [.slice A n c] xs) {j : Nat} (hj : j < n) :
  xs.length = n ∧ ∃ b off, A = some ⟨b, off, none⟩ ∧ lo ≤ b ∧ b < hi ∧ w.cell? ⟨b, off + j * 2, none⟩ = some (.string (xs.getD j shBind.d).1) ∧ w.cell? ⟨b, off + j * 2 + 1, none⟩ = some (.int .i64 (xs.getD j shBind.d).2) ∧ shBind.R w lo hi [.string (xs.getD j shBind.d).1, .int .i64 (xs.getD j shBind.d).2] (xs.getD j shBind.d) := by
 obtain ⟨A', c', e, h⟩ := h
 injection e with e _
 injection e with e1 e2 e3
 subst e1 e2
 obtain ⟨b, off, rfl, h1, h2, hc⟩ := h (by omega)
 obtain ⟨us, h3, h4⟩ := hc j hj
 have h5 := h4
 obtain rfl := shBind_R.1 h4
 exact ⟨rfl, b, off, rfl, h1, h2, h3 0 (by simp), h3 1 (by simp), h5⟩
abbrev TyCell := Int × TyTree
def shCell : Sh TyCell := Sh.prod (shI) (shTree)
theorem shCell_R {w : World} {lo hi : Nat} {vs : List Value} {x0 : Int} {x1 : List TyNode} : shCell.R w lo hi vs (x0, x1) ↔ ∃ A1 c1, vs = [.int .i64 x0, .slice A1 x1.length c1] ∧ RowG shNode w lo hi A1 x1 := by
 constructor
 ·rintro ⟨_, _, rfl, rfl, ⟨A1, c1, rfl, g1⟩⟩
  exact ⟨A1, c1, rfl, g1⟩
 ·rintro ⟨A1, c1, rfl, g1⟩
  exact ⟨[.int .i64 x0], [.slice A1 x1.length c1], rfl, rfl, ⟨A1, c1, rfl, g1⟩⟩
theorem shCell_f1 {w : World} {lo hi : Nat} {x0 : Int} {x1 : List TyNode} {A1 : Option Addr} {c1 : Nat} (h : shCell.R w lo hi [.int .i64 x0, .slice A1 x1.length c1] (x0, x1)) : (shTree).R w lo hi [.slice A1 x1.length c1] x1 := by
 obtain ⟨A1', c1', e, g1⟩ := shCell_R.1 h
 simp only [List.cons.injEq, Value.slice.injEq] at e
 simp only [true_and, and_true] at e
 obtain ⟨rfl, rfl⟩ := e
 exact shTree_R.2 ⟨_, _, rfl, g1⟩
theorem infoCell : (Tryz.prog.info? 353).map (fun i => (i.zero, i.size, i.bytes)) = some (some (.agg #[.int .i64 0, .slice none 0 0]), 2, 32) := by kernel_rfl
def zeroCell : Array Value := #[.int .i64 0, .slice none 0 0]
theorem shCell_cost (x0 : Int) (x1 : List TyNode) : shCell.cost (x0, x1) = 0 + ((shTree).cost x1) := rfl
theorem shCell_fit {m : Nat} (x0 : Int) (x1 : List TyNode) : shCell.fit m (x0, x1) ↔ 0 ≤ m ∧ (shTree).fit m x1 := Iff.rfl
theorem shCell_at {w : World} {lo hi : Nat} {A : Option Addr} {n c : Nat} {xs : List TyCell} {t : TypeId} (h : (Sh.row t shCell).R w lo hi [.slice A n c] xs) {j : Nat} (hj : j < n) :
  xs.length = n ∧ ∃ b off, A = some ⟨b, off, none⟩ ∧ lo ≤ b ∧ b < hi ∧ ∃ (A1 : Option Addr) (c1 : Nat), w.cell? ⟨b, off + j * 2, none⟩ = some (.int .i64 (xs.getD j shCell.d).1) ∧ w.cell? ⟨b, off + j * 2 + 1, none⟩ = some (.slice A1 (xs.getD j shCell.d).2.length c1) ∧ shCell.R w lo hi [.int .i64 (xs.getD j shCell.d).1, .slice A1 (xs.getD j shCell.d).2.length c1] (xs.getD j shCell.d) := by
 obtain ⟨A', c', e, h⟩ := h
 injection e with e _
 injection e with e1 e2 e3
 subst e1 e2
 obtain ⟨b, off, rfl, h1, h2, hc⟩ := h (by omega)
 obtain ⟨us, h3, h4⟩ := hc j hj
 have h5 := h4
 obtain ⟨A1, c1, rfl, _⟩ := shCell_R.1 h4
 exact ⟨rfl, b, off, rfl, h1, h2, A1, c1, h3 0 (by simp), h3 1 (by simp), h5⟩
abbrev TyLevel := List TyBind
def shLevel : Sh TyLevel := Sh.row 359 shBind
theorem shLevel_k : shLevel.k = 1 := rfl
theorem shLevel_R {w : World} {lo hi : Nat} {vs : List Value} {x0 : List TyBind} : shLevel.R w lo hi vs x0 ↔ ∃ A0 c0, vs = [.slice A0 x0.length c0] ∧ RowG shBind w lo hi A0 x0 := by
 constructor
 ·rintro ⟨A0, c0, rfl, g0⟩
  exact ⟨A0, c0, rfl, g0⟩
 ·rintro ⟨A0, c0, rfl, g0⟩
  exact ⟨A0, c0, rfl, g0⟩
theorem shLevel_f0 {w : World} {lo hi : Nat} {x0 : List TyBind} {A0 : Option Addr} {c0 : Nat} (h : shLevel.R w lo hi [.slice A0 x0.length c0] x0) : (Sh.row 359 shBind).R w lo hi [.slice A0 x0.length c0] x0 := by
 obtain ⟨A0', c0', e, g0⟩ := shLevel_R.1 h
 simp only [List.cons.injEq, Value.slice.injEq] at e
 simp only [true_and, and_true] at e
 obtain ⟨rfl, rfl⟩ := e
 exact ⟨_, _, rfl, g0⟩
theorem infoLevel : (Tryz.prog.info? 356).map (fun i => (i.zero, i.size, i.bytes)) = some (some (.agg #[.slice none 0 0]), 1, 24) := by kernel_rfl
def zeroLevel : Array Value := #[.slice none 0 0]
theorem shLevel_cost (x0 : List TyBind) : shLevel.cost x0 = (Sh.row 359 shBind).cost x0 := rfl
theorem shLevel_fit {m : Nat} (x0 : List TyBind) : shLevel.fit m x0 ↔ (Sh.row 359 shBind).fit m x0 := Iff.rfl
theorem shLevel_at {w : World} {lo hi : Nat} {A : Option Addr} {n c : Nat} {xs : List TyLevel} {t : TypeId} (h : (Sh.row t shLevel).R w lo hi [.slice A n c] xs) {j : Nat} (hj : j < n) :
  xs.length = n ∧ ∃ b off, A = some ⟨b, off, none⟩ ∧ lo ≤ b ∧ b < hi ∧ ∃ (A0 : Option Addr) (c0 : Nat), w.cell? ⟨b, off + j, none⟩ = some (.slice A0 (xs.getD j shLevel.d).length c0) ∧ shLevel.R w lo hi [.slice A0 (xs.getD j shLevel.d).length c0] (xs.getD j shLevel.d) := by
 obtain ⟨A', c', e, h⟩ := h
 injection e with e _
 injection e with e1 e2 e3
 subst e1 e2
 obtain ⟨b, off, rfl, h1, h2, hc⟩ := h (by omega)
 obtain ⟨us, h3, h4⟩ := hc j hj
 have h5 := h4
 obtain ⟨A0, c0, rfl, _⟩ := shLevel_R.1 h4
 exact ⟨rfl, b, off, rfl, h1, h2, A0, c0, (by have h6 := h3 0 (by simp); simp only [shLevel_k, Nat.mul_one] at h6; exact h6), h5⟩
abbrev TyGiven := Bool × ByteArray
def shGiven : Sh TyGiven := Sh.prod (shB) (shS)
theorem shGiven_R {w : World} {lo hi : Nat} {vs : List Value} {x0 : Bool} {x1 : ByteArray} : shGiven.R w lo hi vs (x0, x1) ↔ vs = [.bool x0, .string x1] := by
 constructor
 ·rintro ⟨_, _, rfl, rfl, rfl⟩
  exact rfl
 ·rintro rfl
  exact ⟨[.bool x0], [.string x1], rfl, rfl, rfl⟩
theorem infoGiven : (Tryz.prog.info? 322).map (fun i => (i.zero, i.size, i.bytes)) = some (some (.agg #[.bool false, .string ⟨#[]⟩]), 2, 24) := by kernel_rfl
def zeroGiven : Array Value := #[.bool false, .string ⟨#[]⟩]
theorem shGiven_cost (x0 : Bool) (x1 : ByteArray) : shGiven.cost (x0, x1) = 0 + (x1.size) := rfl
theorem shGiven_fit {m : Nat} (x0 : Bool) (x1 : ByteArray) : shGiven.fit m (x0, x1) ↔ 0 ≤ m ∧ x1.size ≤ m := Iff.rfl
theorem shGiven_at {w : World} {lo hi : Nat} {A : Option Addr} {n c : Nat} {xs : List TyGiven} {t : TypeId} (h : (Sh.row t shGiven).R w lo hi [.slice A n c] xs) {j : Nat} (hj : j < n) :
  xs.length = n ∧ ∃ b off, A = some ⟨b, off, none⟩ ∧ lo ≤ b ∧ b < hi ∧ w.cell? ⟨b, off + j * 2, none⟩ = some (.bool (xs.getD j shGiven.d).1) ∧ w.cell? ⟨b, off + j * 2 + 1, none⟩ = some (.string (xs.getD j shGiven.d).2) ∧ shGiven.R w lo hi [.bool (xs.getD j shGiven.d).1, .string (xs.getD j shGiven.d).2] (xs.getD j shGiven.d) := by
 obtain ⟨A', c', e, h⟩ := h
 injection e with e _
 injection e with e1 e2 e3
 subst e1 e2
 obtain ⟨b, off, rfl, h1, h2, hc⟩ := h (by omega)
 obtain ⟨us, h3, h4⟩ := hc j hj
 have h5 := h4
 obtain rfl := shGiven_R.1 h4
 exact ⟨rfl, b, off, rfl, h1, h2, h3 0 (by simp), h3 1 (by simp), h5⟩
abbrev TyLocals := Int × List TyBind × List TyCell × List TyLevel
def shLocals : Sh TyLocals := Sh.prod (shI) (Sh.prod (Sh.row 359 shBind) (Sh.prod (Sh.row 353 shCell) (Sh.row 356 shLevel)))
theorem shLocals_R {w : World} {lo hi : Nat} {vs : List Value} {x0 : Int} {x1 : List TyBind} {x2 : List TyCell} {x3 : List TyLevel} : shLocals.R w lo hi vs (x0, x1, x2, x3) ↔ ∃ A1 c1, ∃ A2 c2, ∃ A3 c3, vs = [.int .i64 x0, .slice A1 x1.length c1, .slice A2 x2.length c2, .slice A3 x3.length c3] ∧ RowG shBind w lo hi A1 x1 ∧ RowG shCell w lo hi A2 x2 ∧ RowG shLevel w lo hi A3 x3 := by
 constructor
 ·rintro ⟨_, _, rfl, rfl, ⟨_, _, rfl, ⟨A1, c1, rfl, g1⟩, ⟨_, _, rfl, ⟨A2, c2, rfl, g2⟩, ⟨A3, c3, rfl, g3⟩⟩⟩⟩
  exact ⟨A1, c1, A2, c2, A3, c3, rfl, g1, g2, g3⟩
 ·rintro ⟨A1, c1, A2, c2, A3, c3, rfl, g1, g2, g3⟩
  exact ⟨[.int .i64 x0], [.slice A1 x1.length c1, .slice A2 x2.length c2, .slice A3 x3.length c3], rfl, rfl, ⟨[.slice A1 x1.length c1], [.slice A2 x2.length c2, .slice A3 x3.length c3], rfl, ⟨A1, c1, rfl, g1⟩, ⟨[.slice A2 x2.length c2], [.slice A3 x3.length c3], rfl, ⟨A2, c2, rfl, g2⟩, ⟨A3, c3, rfl, g3⟩⟩⟩⟩
theorem shLocals_f1 {w : World} {lo hi : Nat} {x0 : Int} {x1 : List TyBind} {x2 : List TyCell} {x3 : List TyLevel} {A1 : Option Addr} {c1 : Nat} {A2 : Option Addr} {c2 : Nat} {A3 : Option Addr} {c3 : Nat} (h : shLocals.R w lo hi [.int .i64 x0, .slice A1 x1.length c1, .slice A2 x2.length c2, .slice A3 x3.length c3] (x0, x1, x2, x3)) : (Sh.row 359 shBind).R w lo hi [.slice A1 x1.length c1] x1 := by
 obtain ⟨A1', c1', A2', c2', A3', c3', e, g1, g2, g3⟩ := shLocals_R.1 h
 simp only [List.cons.injEq, Value.slice.injEq] at e
 simp only [true_and, and_true] at e
 obtain ⟨⟨rfl, rfl⟩, ⟨rfl, rfl⟩, ⟨rfl, rfl⟩⟩ := e
 exact ⟨_, _, rfl, g1⟩
theorem shLocals_f2 {w : World} {lo hi : Nat} {x0 : Int} {x1 : List TyBind} {x2 : List TyCell} {x3 : List TyLevel} {A1 : Option Addr} {c1 : Nat} {A2 : Option Addr} {c2 : Nat} {A3 : Option Addr} {c3 : Nat} (h : shLocals.R w lo hi [.int .i64 x0, .slice A1 x1.length c1, .slice A2 x2.length c2, .slice A3 x3.length c3] (x0, x1, x2, x3)) : (Sh.row 353 shCell).R w lo hi [.slice A2 x2.length c2] x2 := by
 obtain ⟨A1', c1', A2', c2', A3', c3', e, g1, g2, g3⟩ := shLocals_R.1 h
 simp only [List.cons.injEq, Value.slice.injEq] at e
 simp only [true_and, and_true] at e
 obtain ⟨⟨rfl, rfl⟩, ⟨rfl, rfl⟩, ⟨rfl, rfl⟩⟩ := e
 exact ⟨_, _, rfl, g2⟩
theorem shLocals_f3 {w : World} {lo hi : Nat} {x0 : Int} {x1 : List TyBind} {x2 : List TyCell} {x3 : List TyLevel} {A1 : Option Addr} {c1 : Nat} {A2 : Option Addr} {c2 : Nat} {A3 : Option Addr} {c3 : Nat} (h : shLocals.R w lo hi [.int .i64 x0, .slice A1 x1.length c1, .slice A2 x2.length c2, .slice A3 x3.length c3] (x0, x1, x2, x3)) : (Sh.row 356 shLevel).R w lo hi [.slice A3 x3.length c3] x3 := by
 obtain ⟨A1', c1', A2', c2', A3', c3', e, g1, g2, g3⟩ := shLocals_R.1 h
 simp only [List.cons.injEq, Value.slice.injEq] at e
 simp only [true_and, and_true] at e
 obtain ⟨⟨rfl, rfl⟩, ⟨rfl, rfl⟩, ⟨rfl, rfl⟩⟩ := e
 exact ⟨_, _, rfl, g3⟩
theorem shLocals_cost (x0 : Int) (x1 : List TyBind) (x2 : List TyCell) (x3 : List TyLevel) : shLocals.cost (x0, x1, x2, x3) = 0 + ((Sh.row 359 shBind).cost x1 + ((Sh.row 353 shCell).cost x2 + ((Sh.row 356 shLevel).cost x3))) := rfl
theorem shLocals_fit {m : Nat} (x0 : Int) (x1 : List TyBind) (x2 : List TyCell) (x3 : List TyLevel) : shLocals.fit m (x0, x1, x2, x3) ↔ 0 ≤ m ∧ (Sh.row 359 shBind).fit m x1 ∧ (Sh.row 353 shCell).fit m x2 ∧ (Sh.row 356 shLevel).fit m x3 := Iff.rfl
abbrev TyRef := Bool × ByteArray × List ByteArray
def shRef : Sh TyRef := Sh.prod (shB) (Sh.prod (shS) (Sh.row 9 shS))
theorem shRef_R {w : World} {lo hi : Nat} {vs : List Value} {x0 : Bool} {x1 : ByteArray} {x2 : List ByteArray} : shRef.R w lo hi vs (x0, x1, x2) ↔ ∃ A2 c2, vs = [.bool x0, .string x1, .slice A2 x2.length c2] ∧ RowG shS w lo hi A2 x2 := by
 constructor
 ·rintro ⟨_, _, rfl, rfl, ⟨_, _, rfl, rfl, ⟨A2, c2, rfl, g2⟩⟩⟩
  exact ⟨A2, c2, rfl, g2⟩
 ·rintro ⟨A2, c2, rfl, g2⟩
  exact ⟨[.bool x0], [.string x1, .slice A2 x2.length c2], rfl, rfl, ⟨[.string x1], [.slice A2 x2.length c2], rfl, rfl, ⟨A2, c2, rfl, g2⟩⟩⟩
theorem shRef_f2 {w : World} {lo hi : Nat} {x0 : Bool} {x1 : ByteArray} {x2 : List ByteArray} {A2 : Option Addr} {c2 : Nat} (h : shRef.R w lo hi [.bool x0, .string x1, .slice A2 x2.length c2] (x0, x1, x2)) : (Sh.row 9 shS).R w lo hi [.slice A2 x2.length c2] x2 := by
 obtain ⟨A2', c2', e, g2⟩ := shRef_R.1 h
 simp only [List.cons.injEq, Value.slice.injEq] at e
 simp only [true_and, and_true] at e
 obtain ⟨rfl, rfl⟩ := e
 exact ⟨_, _, rfl, g2⟩
theorem infoRef : (Tryz.prog.info? 152).map (fun i => (i.zero, i.size, i.bytes)) = some (some (.agg #[.bool false, .string ⟨#[]⟩, .slice none 0 0]), 3, 48) := by kernel_rfl
def zeroRef : Array Value := #[.bool false, .string ⟨#[]⟩, .slice none 0 0]
theorem shRef_cost (x0 : Bool) (x1 : ByteArray) (x2 : List ByteArray) : shRef.cost (x0, x1, x2) = 0 + (x1.size + ((Sh.row 9 shS).cost x2)) := rfl
theorem shRef_fit {m : Nat} (x0 : Bool) (x1 : ByteArray) (x2 : List ByteArray) : shRef.fit m (x0, x1, x2) ↔ 0 ≤ m ∧ x1.size ≤ m ∧ (Sh.row 9 shS).fit m x2 := Iff.rfl
theorem shRef_at {w : World} {lo hi : Nat} {A : Option Addr} {n c : Nat} {xs : List TyRef} {t : TypeId} (h : (Sh.row t shRef).R w lo hi [.slice A n c] xs) {j : Nat} (hj : j < n) :
  xs.length = n ∧ ∃ b off, A = some ⟨b, off, none⟩ ∧ lo ≤ b ∧ b < hi ∧ ∃ (A2 : Option Addr) (c2 : Nat), w.cell? ⟨b, off + j * 3, none⟩ = some (.bool (xs.getD j shRef.d).1) ∧ w.cell? ⟨b, off + j * 3 + 1, none⟩ = some (.string (xs.getD j shRef.d).2.1) ∧ w.cell? ⟨b, off + j * 3 + 2, none⟩ = some (.slice A2 (xs.getD j shRef.d).2.2.length c2) ∧ shRef.R w lo hi [.bool (xs.getD j shRef.d).1, .string (xs.getD j shRef.d).2.1, .slice A2 (xs.getD j shRef.d).2.2.length c2] (xs.getD j shRef.d) := by
 obtain ⟨A', c', e, h⟩ := h
 injection e with e _
 injection e with e1 e2 e3
 subst e1 e2
 obtain ⟨b, off, rfl, h1, h2, hc⟩ := h (by omega)
 obtain ⟨us, h3, h4⟩ := hc j hj
 have h5 := h4
 obtain ⟨A2, c2, rfl, _⟩ := shRef_R.1 h4
 exact ⟨rfl, b, off, rfl, h1, h2, A2, c2, h3 0 (by simp), h3 1 (by simp), h3 2 (by simp), h5⟩
abbrev TyLoop := ByteArray × Int × Int × Bool × Int × Int
def shLoop : Sh TyLoop := Sh.prod (shS) (Sh.prod (shI) (Sh.prod (shI) (Sh.prod (shB) (Sh.prod (shI) (shI)))))
theorem shLoop_R {w : World} {lo hi : Nat} {vs : List Value} {x0 : ByteArray} {x1 : Int} {x2 : Int} {x3 : Bool} {x4 : Int} {x5 : Int} : shLoop.R w lo hi vs (x0, x1, x2, x3, x4, x5) ↔ vs = [.string x0, .int .i64 x1, .int .i64 x2, .bool x3, .int .i64 x4, .int .i64 x5] := by
 constructor
 ·rintro ⟨_, _, rfl, rfl, ⟨_, _, rfl, rfl, ⟨_, _, rfl, rfl, ⟨_, _, rfl, rfl, ⟨_, _, rfl, rfl, rfl⟩⟩⟩⟩⟩
  exact rfl
 ·rintro rfl
  exact ⟨[.string x0], [.int .i64 x1, .int .i64 x2, .bool x3, .int .i64 x4, .int .i64 x5], rfl, rfl, ⟨[.int .i64 x1], [.int .i64 x2, .bool x3, .int .i64 x4, .int .i64 x5], rfl, rfl, ⟨[.int .i64 x2], [.bool x3, .int .i64 x4, .int .i64 x5], rfl, rfl, ⟨[.bool x3], [.int .i64 x4, .int .i64 x5], rfl, rfl, ⟨[.int .i64 x4], [.int .i64 x5], rfl, rfl, rfl⟩⟩⟩⟩⟩
theorem infoLoop : (Tryz.prog.info? 325).map (fun i => (i.zero, i.size, i.bytes)) = some (some (.agg zz1), 6, 56) := by kernel_rfl
def zeroLoop : Array Value := zz1
theorem shLoop_cost (x0 : ByteArray) (x1 : Int) (x2 : Int) (x3 : Bool) (x4 : Int) (x5 : Int) : shLoop.cost (x0, x1, x2, x3, x4, x5) = x0.size + (0 + (0 + (0 + (0 + (0))))) := rfl
theorem shLoop_fit {m : Nat} (x0 : ByteArray) (x1 : Int) (x2 : Int) (x3 : Bool) (x4 : Int) (x5 : Int) : shLoop.fit m (x0, x1, x2, x3, x4, x5) ↔ x0.size ≤ m ∧ 0 ≤ m ∧ 0 ≤ m ∧ 0 ≤ m ∧ 0 ≤ m ∧ 0 ≤ m := Iff.rfl
theorem shLoop_at {w : World} {lo hi : Nat} {A : Option Addr} {n c : Nat} {xs : List TyLoop} {t : TypeId} (h : (Sh.row t shLoop).R w lo hi [.slice A n c] xs) {j : Nat} (hj : j < n) :
  xs.length = n ∧ ∃ b off, A = some ⟨b, off, none⟩ ∧ lo ≤ b ∧ b < hi ∧ w.cell? ⟨b, off + j * 6, none⟩ = some (.string (xs.getD j shLoop.d).1) ∧ w.cell? ⟨b, off + j * 6 + 1, none⟩ = some (.int .i64 (xs.getD j shLoop.d).2.1) ∧ w.cell? ⟨b, off + j * 6 + 2, none⟩ = some (.int .i64 (xs.getD j shLoop.d).2.2.1) ∧ w.cell? ⟨b, off + j * 6 + 3, none⟩ = some (.bool (xs.getD j shLoop.d).2.2.2.1) ∧ w.cell? ⟨b, off + j * 6 + 4, none⟩ = some (.int .i64 (xs.getD j shLoop.d).2.2.2.2.1) ∧ w.cell? ⟨b, off + j * 6 + 5, none⟩ = some (.int .i64 (xs.getD j shLoop.d).2.2.2.2.2) ∧ shLoop.R w lo hi [.string (xs.getD j shLoop.d).1, .int .i64 (xs.getD j shLoop.d).2.1, .int .i64 (xs.getD j shLoop.d).2.2.1, .bool (xs.getD j shLoop.d).2.2.2.1, .int .i64 (xs.getD j shLoop.d).2.2.2.2.1, .int .i64 (xs.getD j shLoop.d).2.2.2.2.2] (xs.getD j shLoop.d) := by
 obtain ⟨A', c', e, h⟩ := h
 injection e with e _
 injection e with e1 e2 e3
 subst e1 e2
 obtain ⟨b, off, rfl, h1, h2, hc⟩ := h (by omega)
 obtain ⟨us, h3, h4⟩ := hc j hj
 have h5 := h4
 obtain rfl := shLoop_R.1 h4
 exact ⟨rfl, b, off, rfl, h1, h2, h3 0 (by simp), h3 1 (by simp), h3 2 (by simp), h3 3 (by simp), h3 4 (by simp), h3 5 (by simp), h5⟩
abbrev TyFrame := Int × Bool × Bool × Int × Int × Int × Int × ByteArray × ByteArray
def shFrame : Sh TyFrame := Sh.prod (shI) (Sh.prod (shB) (Sh.prod (shB) (Sh.prod (shI) (Sh.prod (shI) (Sh.prod (shI) (Sh.prod (shI) (Sh.prod (shS) (shS))))))))
theorem shFrame_R {w : World} {lo hi : Nat} {vs : List Value} {x0 : Int} {x1 : Bool} {x2 : Bool} {x3 : Int} {x4 : Int} {x5 : Int} {x6 : Int} {x7 : ByteArray} {x8 : ByteArray} : shFrame.R w lo hi vs (x0, x1, x2, x3, x4, x5, x6, x7, x8) ↔ vs = [.int .i64 x0, .bool x1, .bool x2, .int .i64 x3, .int .i64 x4, .int .i64 x5, .int .i64 x6, .string x7, .string x8] := by
 constructor
 ·rintro ⟨_, _, rfl, rfl, ⟨_, _, rfl, rfl, ⟨_, _, rfl, rfl, ⟨_, _, rfl, rfl, ⟨_, _, rfl, rfl, ⟨_, _, rfl, rfl, ⟨_, _, rfl, rfl, ⟨_, _, rfl, rfl, rfl⟩⟩⟩⟩⟩⟩⟩⟩
  exact rfl
 ·rintro rfl
  exact ⟨[.int .i64 x0], [.bool x1, .bool x2, .int .i64 x3, .int .i64 x4, .int .i64 x5, .int .i64 x6, .string x7, .string x8], rfl, rfl, ⟨[.bool x1], [.bool x2, .int .i64 x3, .int .i64 x4, .int .i64 x5, .int .i64 x6, .string x7, .string x8], rfl, rfl, ⟨[.bool x2], [.int .i64 x3, .int .i64 x4, .int .i64 x5, .int .i64 x6, .string x7, .string x8], rfl, rfl, ⟨[.int .i64 x3], [.int .i64 x4, .int .i64 x5, .int .i64 x6, .string x7, .string x8], rfl, rfl, ⟨[.int .i64 x4], [.int .i64 x5, .int .i64 x6, .string x7, .string x8], rfl, rfl, ⟨[.int .i64 x5], [.int .i64 x6, .string x7, .string x8], rfl, rfl, ⟨[.int .i64 x6], [.string x7, .string x8], rfl, rfl, ⟨[.string x7], [.string x8], rfl, rfl, rfl⟩⟩⟩⟩⟩⟩⟩⟩
theorem infoFrame : (Tryz.prog.info? 328).map (fun i => (i.zero, i.size, i.bytes)) = some (some (.agg zz2), 9, 80) := by kernel_rfl
def zeroFrame : Array Value := zz2
theorem shFrame_cost (x0 : Int) (x1 : Bool) (x2 : Bool) (x3 : Int) (x4 : Int) (x5 : Int) (x6 : Int) (x7 : ByteArray) (x8 : ByteArray) : shFrame.cost (x0, x1, x2, x3, x4, x5, x6, x7, x8) = 0 + (0 + (0 + (0 + (0 + (0 + (0 + (x7.size + (x8.size)))))))) := rfl
theorem shFrame_fit {m : Nat} (x0 : Int) (x1 : Bool) (x2 : Bool) (x3 : Int) (x4 : Int) (x5 : Int) (x6 : Int) (x7 : ByteArray) (x8 : ByteArray) : shFrame.fit m (x0, x1, x2, x3, x4, x5, x6, x7, x8) ↔ 0 ≤ m ∧ 0 ≤ m ∧ 0 ≤ m ∧ 0 ≤ m ∧ 0 ≤ m ∧ 0 ≤ m ∧ 0 ≤ m ∧ x7.size ≤ m ∧ x8.size ≤ m := Iff.rfl
theorem shFrame_at {w : World} {lo hi : Nat} {A : Option Addr} {n c : Nat} {xs : List TyFrame} {t : TypeId} (h : (Sh.row t shFrame).R w lo hi [.slice A n c] xs) {j : Nat} (hj : j < n) :
  xs.length = n ∧ ∃ b off, A = some ⟨b, off, none⟩ ∧ lo ≤ b ∧ b < hi ∧ w.cell? ⟨b, off + j * 9, none⟩ = some (.int .i64 (xs.getD j shFrame.d).1) ∧ w.cell? ⟨b, off + j * 9 + 1, none⟩ = some (.bool (xs.getD j shFrame.d).2.1) ∧ w.cell? ⟨b, off + j * 9 + 2, none⟩ = some (.bool (xs.getD j shFrame.d).2.2.1) ∧ w.cell? ⟨b, off + j * 9 + 3, none⟩ = some (.int .i64 (xs.getD j shFrame.d).2.2.2.1) ∧ w.cell? ⟨b, off + j * 9 + 4, none⟩ = some (.int .i64 (xs.getD j shFrame.d).2.2.2.2.1) ∧ w.cell? ⟨b, off + j * 9 + 5, none⟩ = some (.int .i64 (xs.getD j shFrame.d).2.2.2.2.2.1) ∧ w.cell? ⟨b, off + j * 9 + 6, none⟩ = some (.int .i64 (xs.getD j shFrame.d).2.2.2.2.2.2.1) ∧ w.cell? ⟨b, off + j * 9 + 7, none⟩ = some (.string (xs.getD j shFrame.d).2.2.2.2.2.2.2.1) ∧ w.cell? ⟨b, off + j * 9 + 8, none⟩ = some (.string (xs.getD j shFrame.d).2.2.2.2.2.2.2.2) ∧ shFrame.R w lo hi [.int .i64 (xs.getD j shFrame.d).1, .bool (xs.getD j shFrame.d).2.1, .bool (xs.getD j shFrame.d).2.2.1, .int .i64 (xs.getD j shFrame.d).2.2.2.1, .int .i64 (xs.getD j shFrame.d).2.2.2.2.1, .int .i64 (xs.getD j shFrame.d).2.2.2.2.2.1, .int .i64 (xs.getD j shFrame.d).2.2.2.2.2.2.1, .string (xs.getD j shFrame.d).2.2.2.2.2.2.2.1, .string (xs.getD j shFrame.d).2.2.2.2.2.2.2.2] (xs.getD j shFrame.d) := by
 obtain ⟨A', c', e, h⟩ := h
 injection e with e _
 injection e with e1 e2 e3
 subst e1 e2
 obtain ⟨b, off, rfl, h1, h2, hc⟩ := h (by omega)
 obtain ⟨us, h3, h4⟩ := hc j hj
 have h5 := h4
 obtain rfl := shFrame_R.1 h4
 exact ⟨rfl, b, off, rfl, h1, h2, h3 0 (by simp), h3 1 (by simp), h3 2 (by simp), h3 3 (by simp), h3 4 (by simp), h3 5 (by simp), h3 6 (by simp), h3 7 (by simp), h3 8 (by simp), h5⟩
end Go.Proofs.YtgnmollbnopigaaGreat
