/- Node, Tree, Bind, Cell, Level, Given, Locals, Ref, Loop, Frame: shapes and the laws' walks (sh). Printed by gen_fam.py. -/
import Derived.Test.YtfibjcaidnofmaaGreatDoorJoinEXAh
namespace Go.Proofs.YtfibjcaidnofmaaGreatDoor
open Go.RowKit

/-! ### Node -/

abbrev TyNode := ByteArray × List ByteArray × ByteArray
def shNode : Sh TyNode := Sh.prod (shS) (Sh.prod (Sh.row 9 shS) (shS))
theorem shNode_k : shNode.k = 3 := rfl
theorem shNode_R {w : World} {lo hi : Nat} {vs : List Value} {x0 : ByteArray} {x1 : List ByteArray} {x2 : ByteArray} : shNode.R w lo hi vs (x0, x1, x2) ↔ ∃ A1 c1, vs = [.string x0, .slice A1 x1.length c1, .string x2] ∧ RowG shS w lo hi A1 x1 := by
  constructor
  · rintro ⟨_, _, rfl, rfl, ⟨_, _, rfl, ⟨A1, c1, rfl, g1⟩, rfl⟩⟩
    exact ⟨A1, c1, rfl, g1⟩
  · rintro ⟨A1, c1, rfl, g1⟩
    exact ⟨[.string x0], [.slice A1 x1.length c1, .string x2], rfl, rfl, ⟨[.slice A1 x1.length c1], [.string x2], rfl, ⟨A1, c1, rfl, g1⟩, rfl⟩⟩
theorem shNode_O {w : World} {F : List Nat} {vs : List Value} {x0 : ByteArray} {x1 : List ByteArray} {x2 : ByteArray} : shNode.O w F vs (x0, x1, x2) ↔ ∃ A1 c1 F1, vs = [.string x0, .slice A1 x1.length c1, .string x2] ∧ F = ([] ++ (F1 ++ [])) ∧ (Sh.row 9 shS).O w F1 [.slice A1 x1.length c1] x1 := by
  constructor
  · rintro ⟨_, _, _, _, rfl, rfl, ⟨rfl, rfl⟩, ⟨_, _, _, _, rfl, rfl, h1, ⟨rfl, rfl⟩⟩⟩
    have h1' := h1; obtain ⟨A1, c1, _, _, rfl, _⟩ := h1
    exact ⟨A1, c1, _, rfl, rfl, h1'⟩
  · rintro ⟨A1, c1, F1, q1, q2, h1⟩
    rw [q1, q2]
    exact ⟨[.string x0], [.slice A1 x1.length c1, .string x2], [], (F1 ++ []), rfl, rfl, ⟨rfl, rfl⟩, ⟨[.slice A1 x1.length c1], [.string x2], F1, [], rfl, rfl, h1, ⟨rfl, rfl⟩⟩⟩
theorem shNode_f1 {w : World} {lo hi : Nat} {x0 : ByteArray} {x1 : List ByteArray} {x2 : ByteArray} {A1 : Option Addr} {c1 : Nat} (h : shNode.R w lo hi [.string x0, .slice A1 x1.length c1, .string x2] (x0, x1, x2)) : (Sh.row 9 shS).R w lo hi [.slice A1 x1.length c1] x1 := by
  obtain ⟨A1', c1', e, g1⟩ := shNode_R.1 h
  simp only [List.cons.injEq, Value.slice.injEq] at e
  simp only [true_and, and_true] at e
  obtain ⟨rfl, rfl⟩ := e
  exact ⟨_, _, rfl, g1⟩
theorem infoNode : (Tryz.prog.info? 32).map (fun i => (i.zero, i.size, i.bytes)) = some (some (.agg #[.string ⟨#[]⟩, .slice none 0 0, .string ⟨#[]⟩]), 3, 56) := by kernel_rfl
theorem shNode_at {w : World} {lo hi : Nat} {A : Option Addr} {n c : Nat} {xs : List TyNode} {t : TypeId} (h : (Sh.row t shNode).R w lo hi [.slice A n c] xs) {j : Nat} (hj : j < n) :
    xs.length = n ∧ ∃ b off, A = some ⟨b, off, none⟩ ∧ lo ≤ b ∧ b < hi ∧ ∃ (A1 : Option Addr) (c1 : Nat), w.cell? ⟨b, off + j * 3, none⟩ = some (.string (xs.getD j shNode.d).1) ∧ w.cell? ⟨b, off + j * 3 + 1, none⟩ = some (.slice A1 (xs.getD j shNode.d).2.1.length c1) ∧ w.cell? ⟨b, off + j * 3 + 2, none⟩ = some (.string (xs.getD j shNode.d).2.2) ∧ shNode.R w lo hi [.string (xs.getD j shNode.d).1, .slice A1 (xs.getD j shNode.d).2.1.length c1, .string (xs.getD j shNode.d).2.2] (xs.getD j shNode.d) := by
  obtain ⟨A', c', e, h⟩ := h
  injection e with e _
  injection e with e1 e2 e3
  subst e1 e2
  obtain ⟨b, off, rfl, h1, h2, hc⟩ := h (by omega)
  obtain ⟨us, h3, h4⟩ := hc j hj
  have h5 := h4
  obtain ⟨A1, c1, rfl, _⟩ := shNode_R.1 h4
  exact ⟨rfl, b, off, rfl, h1, h2, A1, c1, h3 0 (by simp), h3 1 (by simp), h3 2 (by simp), h5⟩

/-! ### Tree -/

abbrev TyTree := List TyNode
def shTree : Sh TyTree := Sh.row 32 shNode
/-! ### Bind -/

/-! ### Cell -/

/-! ### Level -/

/-! ### Locals -/

/-! ### Loop -/

/-! ### Frame -/

end Go.Proofs.YtfibjcaidnofmaaGreatDoor

