/- Ins, Entry, Program, Trigger, Lock, Ask, Locks, Event, Trans, Batch, Put, Disk, Seat, Top, Cache, Journal, Page, Slot, Btree: shapes and the laws' walks (sh). Printed by gen_fam.py. -/
import Derived.Test.YtnnabkldceklmaaGreatDoorJoinBTAg
namespace Go.Proofs.YtnnabkldceklmaaGreatDoor
open Go.RowKit
abbrev TyPut := Int × ByteArray
def shPut : Sh TyPut := Sh.prod (shI) (shS)
theorem shPut_k : shPut.k = 2 := rfl
theorem shPut_R {w : World} {lo hi : Nat} {vs : List Value} {x0 : Int} {x1 : ByteArray} : shPut.R w lo hi vs (x0, x1) ↔ vs = [.int .i64 x0, .string x1] := by
 constructor
 ·rintro ⟨_, _, rfl, rfl, rfl⟩
  exact rfl
 ·rintro rfl
  exact ⟨[.int .i64 x0], [.string x1], rfl, rfl, rfl⟩
theorem shPut_O {w : World} {F : List Nat} {vs : List Value} {x0 : Int} {x1 : ByteArray} : shPut.O w F vs (x0, x1) ↔ vs = [.int .i64 x0, .string x1] ∧ F = ([] ++ []) := by
 constructor
 ·rintro ⟨_, _, _, _, rfl, rfl, ⟨rfl, rfl⟩, ⟨rfl, rfl⟩⟩
  exact ⟨rfl, rfl⟩
 ·rintro ⟨q1, q2⟩
  rw [q1, q2]
  exact ⟨[.int .i64 x0], [.string x1], [], [], rfl, rfl, ⟨rfl, rfl⟩, ⟨rfl, rfl⟩⟩
theorem flatPut : FlatSh shPut := fun h w' => by obtain rfl := shPut_R.1 h; exact shPut_O.2 ⟨rfl, rfl⟩
theorem infoPut : (Tryz.prog.info? 138).map (fun i => (i.zero, i.size, i.bytes)) = some (some (.agg #[.int .i64 0, .string ⟨#[]⟩]), 2, 24) := by kernel_rfl
def zeroPut : Array Value := #[.int .i64 0, .string ⟨#[]⟩]
theorem shPut_cost (x0 : Int) (x1 : ByteArray) : shPut.cost (x0, x1) = 0 + (x1.size) := rfl
theorem shPut_cnt (x0 : Int) (x1 : ByteArray) : shPut.cnt (x0, x1) = 1 + (1) := rfl
theorem shPut_fit {m : Nat} (x0 : Int) (x1 : ByteArray) : shPut.fit m (x0, x1) ↔ 0 ≤ m ∧ x1.size ≤ m := Iff.rfl
theorem shPut_at {w : World} {lo hi : Nat} {A : Option Addr} {n c : Nat} {xs : List TyPut} {t : TypeId} (h : (Sh.row t shPut).R w lo hi [.slice A n c] xs) {j : Nat} (hj : j < n) :
  xs.length = n ∧ ∃ b off, A = some ⟨b, off, none⟩ ∧ lo ≤ b ∧ b < hi ∧ w.cell? ⟨b, off + j * 2, none⟩ = some (.int .i64 (xs.getD j shPut.d).1) ∧ w.cell? ⟨b, off + j * 2 + 1, none⟩ = some (.string (xs.getD j shPut.d).2) ∧ shPut.R w lo hi [.int .i64 (xs.getD j shPut.d).1, .string (xs.getD j shPut.d).2] (xs.getD j shPut.d) := by
 obtain ⟨A', c', e, h⟩ := h
 injection e with e _
 injection e with e1 e2 e3
 subst e1 e2
 obtain ⟨b, off, rfl, h1, h2, hc⟩ := h (by omega)
 obtain ⟨us, h3, h4⟩ := hc j hj
 have h5 := h4
 obtain rfl := shPut_R.1 h4
 exact ⟨rfl, b, off, rfl, h1, h2, h3 0 (by simp), h3 1 (by simp), h5⟩
abbrev TyDisk := Int × List ByteArray × List TyPut
def shDisk : Sh TyDisk := Sh.prod (shI) (Sh.prod (Sh.row 9 shS) (Sh.row 138 shPut))
theorem shDisk_R {w : World} {lo hi : Nat} {vs : List Value} {x0 : Int} {x1 : List ByteArray} {x2 : List TyPut} : shDisk.R w lo hi vs (x0, x1, x2) ↔ ∃ A1 c1, ∃ A2 c2, vs = [.int .i64 x0, .slice A1 x1.length c1, .slice A2 x2.length c2] ∧ RowG shS w lo hi A1 x1 ∧ RowG shPut w lo hi A2 x2 := by
 constructor
 ·rintro ⟨_, _, rfl, rfl, ⟨_, _, rfl, ⟨A1, c1, rfl, g1⟩, ⟨A2, c2, rfl, g2⟩⟩⟩
  exact ⟨A1, c1, A2, c2, rfl, g1, g2⟩
 ·rintro ⟨A1, c1, A2, c2, rfl, g1, g2⟩
  exact ⟨[.int .i64 x0], [.slice A1 x1.length c1, .slice A2 x2.length c2], rfl, rfl, ⟨[.slice A1 x1.length c1], [.slice A2 x2.length c2], rfl, ⟨A1, c1, rfl, g1⟩, ⟨A2, c2, rfl, g2⟩⟩⟩
theorem shDisk_O {w : World} {F : List Nat} {vs : List Value} {x0 : Int} {x1 : List ByteArray} {x2 : List TyPut} : shDisk.O w F vs (x0, x1, x2) ↔ ∃ A1 c1 F1, ∃ A2 c2 F2, vs = [.int .i64 x0, .slice A1 x1.length c1, .slice A2 x2.length c2] ∧ F = ([] ++ (F1 ++ F2)) ∧ (Sh.row 9 shS).O w F1 [.slice A1 x1.length c1] x1 ∧ (Sh.row 138 shPut).O w F2 [.slice A2 x2.length c2] x2 := by
 constructor
 ·rintro ⟨_, _, _, _, rfl, rfl, ⟨rfl, rfl⟩, ⟨_, _, _, _, rfl, rfl, h1, h2⟩⟩
  have h1' := h1; obtain ⟨A1, c1, _, _, rfl, _⟩ := h1
  have h2' := h2; obtain ⟨A2, c2, _, _, rfl, _⟩ := h2
  exact ⟨A1, c1, _, A2, c2, _, rfl, rfl, h1', h2'⟩
 ·rintro ⟨A1, c1, F1, A2, c2, F2, q1, q2, h1, h2⟩
  rw [q1, q2]
  exact ⟨[.int .i64 x0], [.slice A1 x1.length c1, .slice A2 x2.length c2], [], (F1 ++ F2), rfl, rfl, ⟨rfl, rfl⟩, ⟨[.slice A1 x1.length c1], [.slice A2 x2.length c2], F1, F2, rfl, rfl, h1, h2⟩⟩
theorem shDisk_f1 {w : World} {lo hi : Nat} {x0 : Int} {x1 : List ByteArray} {x2 : List TyPut} {A1 : Option Addr} {c1 : Nat} {A2 : Option Addr} {c2 : Nat} (h : shDisk.R w lo hi [.int .i64 x0, .slice A1 x1.length c1, .slice A2 x2.length c2] (x0, x1, x2)) : (Sh.row 9 shS).R w lo hi [.slice A1 x1.length c1] x1 := by
 obtain ⟨A1', c1', A2', c2', e, g1, g2⟩ := shDisk_R.1 h
 simp only [List.cons.injEq, Value.slice.injEq] at e
 simp only [true_and, and_true] at e
 obtain ⟨⟨rfl, rfl⟩, ⟨rfl, rfl⟩⟩ := e
 exact ⟨_, _, rfl, g1⟩
theorem shDisk_f2 {w : World} {lo hi : Nat} {x0 : Int} {x1 : List ByteArray} {x2 : List TyPut} {A1 : Option Addr} {c1 : Nat} {A2 : Option Addr} {c2 : Nat} (h : shDisk.R w lo hi [.int .i64 x0, .slice A1 x1.length c1, .slice A2 x2.length c2] (x0, x1, x2)) : (Sh.row 138 shPut).R w lo hi [.slice A2 x2.length c2] x2 := by
 obtain ⟨A1', c1', A2', c2', e, g1, g2⟩ := shDisk_R.1 h
 simp only [List.cons.injEq, Value.slice.injEq] at e
 simp only [true_and, and_true] at e
 obtain ⟨⟨rfl, rfl⟩, ⟨rfl, rfl⟩⟩ := e
 exact ⟨_, _, rfl, g2⟩
theorem shDisk_cost (x0 : Int) (x1 : List ByteArray) (x2 : List TyPut) : shDisk.cost (x0, x1, x2) = 0 + ((Sh.row 9 shS).cost x1 + ((Sh.row 138 shPut).cost x2)) := rfl
theorem shDisk_top (x0 : Int) (x1 : List ByteArray) (x2 : List TyPut) : shDisk.cntTop (x0, x1, x2) = 0 + ((Sh.row 9 shS).cnt x1 + ((Sh.row 138 shPut).cnt x2)) := rfl
theorem shDisk_fit {m : Nat} (x0 : Int) (x1 : List ByteArray) (x2 : List TyPut) : shDisk.fit m (x0, x1, x2) ↔ 0 ≤ m ∧ (Sh.row 9 shS).fit m x1 ∧ (Sh.row 138 shPut).fit m x2 := Iff.rfl
abbrev TySeat := Int × Int
def shSeat : Sh TySeat := Sh.prod (shI) (shI)
theorem shSeat_k : shSeat.k = 2 := rfl
theorem shSeat_R {w : World} {lo hi : Nat} {vs : List Value} {x0 : Int} {x1 : Int} : shSeat.R w lo hi vs (x0, x1) ↔ vs = [.int .i64 x0, .int .i64 x1] := by
 constructor
 ·rintro ⟨_, _, rfl, rfl, rfl⟩
  exact rfl
 ·rintro rfl
  exact ⟨[.int .i64 x0], [.int .i64 x1], rfl, rfl, rfl⟩
theorem shSeat_O {w : World} {F : List Nat} {vs : List Value} {x0 : Int} {x1 : Int} : shSeat.O w F vs (x0, x1) ↔ vs = [.int .i64 x0, .int .i64 x1] ∧ F = ([] ++ []) := by
 constructor
 ·rintro ⟨_, _, _, _, rfl, rfl, ⟨rfl, rfl⟩, ⟨rfl, rfl⟩⟩
  exact ⟨rfl, rfl⟩
 ·rintro ⟨q1, q2⟩
  rw [q1, q2]
  exact ⟨[.int .i64 x0], [.int .i64 x1], [], [], rfl, rfl, ⟨rfl, rfl⟩, ⟨rfl, rfl⟩⟩
theorem flatSeat : FlatSh shSeat := fun h w' => by obtain rfl := shSeat_R.1 h; exact shSeat_O.2 ⟨rfl, rfl⟩
theorem infoSeat : (Tryz.prog.info? 88).map (fun i => (i.zero, i.size, i.bytes)) = some (some (.agg #[.int .i64 0, .int .i64 0]), 2, 16) := by kernel_rfl
def zeroSeat : Array Value := #[.int .i64 0, .int .i64 0]
theorem shSeat_cost (x0 : Int) (x1 : Int) : shSeat.cost (x0, x1) = 0 + (0) := rfl
theorem shSeat_cnt (x0 : Int) (x1 : Int) : shSeat.cnt (x0, x1) = 1 + (1) := rfl
theorem shSeat_fit {m : Nat} (x0 : Int) (x1 : Int) : shSeat.fit m (x0, x1) ↔ 0 ≤ m ∧ 0 ≤ m := Iff.rfl
theorem shSeat_at {w : World} {lo hi : Nat} {A : Option Addr} {n c : Nat} {xs : List TySeat} {t : TypeId} (h : (Sh.row t shSeat).R w lo hi [.slice A n c] xs) {j : Nat} (hj : j < n) :
  xs.length = n ∧ ∃ b off, A = some ⟨b, off, none⟩ ∧ lo ≤ b ∧ b < hi ∧ w.cell? ⟨b, off + j * 2, none⟩ = some (.int .i64 (xs.getD j shSeat.d).1) ∧ w.cell? ⟨b, off + j * 2 + 1, none⟩ = some (.int .i64 (xs.getD j shSeat.d).2) ∧ shSeat.R w lo hi [.int .i64 (xs.getD j shSeat.d).1, .int .i64 (xs.getD j shSeat.d).2] (xs.getD j shSeat.d) := by
 obtain ⟨A', c', e, h⟩ := h
 injection e with e _
 injection e with e1 e2 e3
 subst e1 e2
 obtain ⟨b, off, rfl, h1, h2, hc⟩ := h (by omega)
 obtain ⟨us, h3, h4⟩ := hc j hj
 have h5 := h4
 obtain rfl := shSeat_R.1 h4
 exact ⟨rfl, b, off, rfl, h1, h2, h3 0 (by simp), h3 1 (by simp), h5⟩
abbrev TyTop := Int × Int × Int × List TySeat
def shTop : Sh TyTop := Sh.prod (shI) (Sh.prod (shI) (Sh.prod (shI) (Sh.row 88 shSeat)))
theorem shTop_R {w : World} {lo hi : Nat} {vs : List Value} {x0 : Int} {x1 : Int} {x2 : Int} {x3 : List TySeat} : shTop.R w lo hi vs (x0, x1, x2, x3) ↔ ∃ A3 c3, vs = [.int .i64 x0, .int .i64 x1, .int .i64 x2, .slice A3 x3.length c3] ∧ RowG shSeat w lo hi A3 x3 := by
 constructor
 ·rintro ⟨_, _, rfl, rfl, ⟨_, _, rfl, rfl, ⟨_, _, rfl, rfl, ⟨A3, c3, rfl, g3⟩⟩⟩⟩
  exact ⟨A3, c3, rfl, g3⟩
 ·rintro ⟨A3, c3, rfl, g3⟩
  exact ⟨[.int .i64 x0], [.int .i64 x1, .int .i64 x2, .slice A3 x3.length c3], rfl, rfl, ⟨[.int .i64 x1], [.int .i64 x2, .slice A3 x3.length c3], rfl, rfl, ⟨[.int .i64 x2], [.slice A3 x3.length c3], rfl, rfl, ⟨A3, c3, rfl, g3⟩⟩⟩⟩
theorem shTop_O {w : World} {F : List Nat} {vs : List Value} {x0 : Int} {x1 : Int} {x2 : Int} {x3 : List TySeat} : shTop.O w F vs (x0, x1, x2, x3) ↔ ∃ A3 c3 F3, vs = [.int .i64 x0, .int .i64 x1, .int .i64 x2, .slice A3 x3.length c3] ∧ F = ([] ++ ([] ++ ([] ++ F3))) ∧ (Sh.row 88 shSeat).O w F3 [.slice A3 x3.length c3] x3 := by
 constructor
 ·rintro ⟨_, _, _, _, rfl, rfl, ⟨rfl, rfl⟩, ⟨_, _, _, _, rfl, rfl, ⟨rfl, rfl⟩, ⟨_, _, _, _, rfl, rfl, ⟨rfl, rfl⟩, h3⟩⟩⟩
  have h3' := h3; obtain ⟨A3, c3, _, _, rfl, _⟩ := h3
  exact ⟨A3, c3, _, rfl, rfl, h3'⟩
 ·rintro ⟨A3, c3, F3, q1, q2, h3⟩
  rw [q1, q2]
  exact ⟨[.int .i64 x0], [.int .i64 x1, .int .i64 x2, .slice A3 x3.length c3], [], ([] ++ ([] ++ F3)), rfl, rfl, ⟨rfl, rfl⟩, ⟨[.int .i64 x1], [.int .i64 x2, .slice A3 x3.length c3], [], ([] ++ F3), rfl, rfl, ⟨rfl, rfl⟩, ⟨[.int .i64 x2], [.slice A3 x3.length c3], [], F3, rfl, rfl, ⟨rfl, rfl⟩, h3⟩⟩⟩
theorem shTop_f3 {w : World} {lo hi : Nat} {x0 : Int} {x1 : Int} {x2 : Int} {x3 : List TySeat} {A3 : Option Addr} {c3 : Nat} (h : shTop.R w lo hi [.int .i64 x0, .int .i64 x1, .int .i64 x2, .slice A3 x3.length c3] (x0, x1, x2, x3)) : (Sh.row 88 shSeat).R w lo hi [.slice A3 x3.length c3] x3 := by
 obtain ⟨A3', c3', e, g3⟩ := shTop_R.1 h
 simp only [List.cons.injEq, Value.slice.injEq] at e
 simp only [true_and, and_true] at e
 obtain ⟨rfl, rfl⟩ := e
 exact ⟨_, _, rfl, g3⟩
theorem shTop_cost (x0 : Int) (x1 : Int) (x2 : Int) (x3 : List TySeat) : shTop.cost (x0, x1, x2, x3) = 0 + (0 + (0 + ((Sh.row 88 shSeat).cost x3))) := rfl
theorem shTop_top (x0 : Int) (x1 : Int) (x2 : Int) (x3 : List TySeat) : shTop.cntTop (x0, x1, x2, x3) = 0 + (0 + (0 + ((Sh.row 88 shSeat).cnt x3))) := rfl
theorem shTop_fit {m : Nat} (x0 : Int) (x1 : Int) (x2 : Int) (x3 : List TySeat) : shTop.fit m (x0, x1, x2, x3) ↔ 0 ≤ m ∧ 0 ≤ m ∧ 0 ≤ m ∧ (Sh.row 88 shSeat).fit m x3 := Iff.rfl
abbrev TyCache := TyDisk × TyTop × TyTop × List TySeat × List Int
def shCache : Sh TyCache := Sh.prod (shDisk) (Sh.prod (shTop) (Sh.prod (shTop) (Sh.prod (Sh.row 88 shSeat) (Sh.row 2 shI))))
theorem shCache_R {w : World} {lo hi : Nat} {vs : List Value} {x0 : Int} {x1 : List ByteArray} {x2 : List TyPut} {x3 : Int} {x4 : Int} {x5 : Int} {x6 : List TySeat} {x7 : Int} {x8 : Int} {x9 : Int} {x10 : List TySeat} {x11 : List TySeat} {x12 : List Int} : shCache.R w lo hi vs ((x0, x1, x2), (x3, x4, x5, x6), (x7, x8, x9, x10), x11, x12) ↔ ∃ A1 c1, ∃ A2 c2, ∃ A6 c6, ∃ A10 c10, ∃ A11 c11, ∃ A12 c12, vs = [.int .i64 x0, .slice A1 x1.length c1, .slice A2 x2.length c2, .int .i64 x3, .int .i64 x4, .int .i64 x5, .slice A6 x6.length c6, .int .i64 x7, .int .i64 x8, .int .i64 x9, .slice A10 x10.length c10, .slice A11 x11.length c11, .slice A12 x12.length c12] ∧ RowG shS w lo hi A1 x1 ∧ RowG shPut w lo hi A2 x2 ∧ RowG shSeat w lo hi A6 x6 ∧ RowG shSeat w lo hi A10 x10 ∧ RowG shSeat w lo hi A11 x11 ∧ RowG shI w lo hi A12 x12 := by
 constructor
 ·rintro ⟨_, _, rfl, ⟨_, _, rfl, rfl, ⟨_, _, rfl, ⟨A1, c1, rfl, g1⟩, ⟨A2, c2, rfl, g2⟩⟩⟩, ⟨_, _, rfl, ⟨_, _, rfl, rfl, ⟨_, _, rfl, rfl, ⟨_, _, rfl, rfl, ⟨A6, c6, rfl, g6⟩⟩⟩⟩, ⟨_, _, rfl, ⟨_, _, rfl, rfl, ⟨_, _, rfl, rfl, ⟨_, _, rfl, rfl, ⟨A10, c10, rfl, g10⟩⟩⟩⟩, ⟨_, _, rfl, ⟨A11, c11, rfl, g11⟩, ⟨A12, c12, rfl, g12⟩⟩⟩⟩⟩
  exact ⟨A1, c1, A2, c2, A6, c6, A10, c10, A11, c11, A12, c12, rfl, g1, g2, g6, g10, g11, g12⟩
 ·rintro ⟨A1, c1, A2, c2, A6, c6, A10, c10, A11, c11, A12, c12, rfl, g1, g2, g6, g10, g11, g12⟩
  exact ⟨[.int .i64 x0, .slice A1 x1.length c1, .slice A2 x2.length c2], [.int .i64 x3, .int .i64 x4, .int .i64 x5, .slice A6 x6.length c6, .int .i64 x7, .int .i64 x8, .int .i64 x9, .slice A10 x10.length c10, .slice A11 x11.length c11, .slice A12 x12.length c12], rfl, ⟨[.int .i64 x0], [.slice A1 x1.length c1, .slice A2 x2.length c2], rfl, rfl, ⟨[.slice A1 x1.length c1], [.slice A2 x2.length c2], rfl, ⟨A1, c1, rfl, g1⟩, ⟨A2, c2, rfl, g2⟩⟩⟩, ⟨[.int .i64 x3, .int .i64 x4, .int .i64 x5, .slice A6 x6.length c6], [.int .i64 x7, .int .i64 x8, .int .i64 x9, .slice A10 x10.length c10, .slice A11 x11.length c11, .slice A12 x12.length c12], rfl, ⟨[.int .i64 x3], [.int .i64 x4, .int .i64 x5, .slice A6 x6.length c6], rfl, rfl, ⟨[.int .i64 x4], [.int .i64 x5, .slice A6 x6.length c6], rfl, rfl, ⟨[.int .i64 x5], [.slice A6 x6.length c6], rfl, rfl, ⟨A6, c6, rfl, g6⟩⟩⟩⟩, ⟨[.int .i64 x7, .int .i64 x8, .int .i64 x9, .slice A10 x10.length c10], [.slice A11 x11.length c11, .slice A12 x12.length c12], rfl, ⟨[.int .i64 x7], [.int .i64 x8, .int .i64 x9, .slice A10 x10.length c10], rfl, rfl, ⟨[.int .i64 x8], [.int .i64 x9, .slice A10 x10.length c10], rfl, rfl, ⟨[.int .i64 x9], [.slice A10 x10.length c10], rfl, rfl, ⟨A10, c10, rfl, g10⟩⟩⟩⟩, ⟨[.slice A11 x11.length c11], [.slice A12 x12.length c12], rfl, ⟨A11, c11, rfl, g11⟩, ⟨A12, c12, rfl, g12⟩⟩⟩⟩⟩
theorem shCache_O {w : World} {F : List Nat} {vs : List Value} {x0 : Int} {x1 : List ByteArray} {x2 : List TyPut} {x3 : Int} {x4 : Int} {x5 : Int} {x6 : List TySeat} {x7 : Int} {x8 : Int} {x9 : Int} {x10 : List TySeat} {x11 : List TySeat} {x12 : List Int} : shCache.O w F vs ((x0, x1, x2), (x3, x4, x5, x6), (x7, x8, x9, x10), x11, x12) ↔ ∃ A1 c1 F1, ∃ A2 c2 F2, ∃ A6 c6 F6, ∃ A10 c10 F10, ∃ A11 c11 F11, ∃ A12 c12 F12, vs = [.int .i64 x0, .slice A1 x1.length c1, .slice A2 x2.length c2, .int .i64 x3, .int .i64 x4, .int .i64 x5, .slice A6 x6.length c6, .int .i64 x7, .int .i64 x8, .int .i64 x9, .slice A10 x10.length c10, .slice A11 x11.length c11, .slice A12 x12.length c12] ∧ F = (([] ++ (F1 ++ F2)) ++ (([] ++ ([] ++ ([] ++ F6))) ++ (([] ++ ([] ++ ([] ++ F10))) ++ (F11 ++ F12)))) ∧ (Sh.row 9 shS).O w F1 [.slice A1 x1.length c1] x1 ∧ (Sh.row 138 shPut).O w F2 [.slice A2 x2.length c2] x2 ∧ (Sh.row 88 shSeat).O w F6 [.slice A6 x6.length c6] x6 ∧ (Sh.row 88 shSeat).O w F10 [.slice A10 x10.length c10] x10 ∧ (Sh.row 88 shSeat).O w F11 [.slice A11 x11.length c11] x11 ∧ (Sh.row 2 shI).O w F12 [.slice A12 x12.length c12] x12 := by
 constructor
 ·rintro ⟨_, _, _, _, rfl, rfl, ⟨_, _, _, _, rfl, rfl, ⟨rfl, rfl⟩, ⟨_, _, _, _, rfl, rfl, h1, h2⟩⟩, ⟨_, _, _, _, rfl, rfl, ⟨_, _, _, _, rfl, rfl, ⟨rfl, rfl⟩, ⟨_, _, _, _, rfl, rfl, ⟨rfl, rfl⟩, ⟨_, _, _, _, rfl, rfl, ⟨rfl, rfl⟩, h6⟩⟩⟩, ⟨_, _, _, _, rfl, rfl, ⟨_, _, _, _, rfl, rfl, ⟨rfl, rfl⟩, ⟨_, _, _, _, rfl, rfl, ⟨rfl, rfl⟩, ⟨_, _, _, _, rfl, rfl, ⟨rfl, rfl⟩, h10⟩⟩⟩, ⟨_, _, _, _, rfl, rfl, h11, h12⟩⟩⟩⟩
  have h1' := h1; obtain ⟨A1, c1, _, _, rfl, _⟩ := h1
  have h2' := h2; obtain ⟨A2, c2, _, _, rfl, _⟩ := h2
  have h6' := h6; obtain ⟨A6, c6, _, _, rfl, _⟩ := h6
  have h10' := h10; obtain ⟨A10, c10, _, _, rfl, _⟩ := h10
  have h11' := h11; obtain ⟨A11, c11, _, _, rfl, _⟩ := h11
  have h12' := h12; obtain ⟨A12, c12, _, _, rfl, _⟩ := h12
  exact ⟨A1, c1, _, A2, c2, _, A6, c6, _, A10, c10, _, A11, c11, _, A12, c12, _, rfl, rfl, h1', h2', h6', h10', h11', h12'⟩
 ·rintro ⟨A1, c1, F1, A2, c2, F2, A6, c6, F6, A10, c10, F10, A11, c11, F11, A12, c12, F12, q1, q2, h1, h2, h6, h10, h11, h12⟩
  rw [q1, q2]
  exact ⟨[.int .i64 x0, .slice A1 x1.length c1, .slice A2 x2.length c2], [.int .i64 x3, .int .i64 x4, .int .i64 x5, .slice A6 x6.length c6, .int .i64 x7, .int .i64 x8, .int .i64 x9, .slice A10 x10.length c10, .slice A11 x11.length c11, .slice A12 x12.length c12], ([] ++ (F1 ++ F2)), (([] ++ ([] ++ ([] ++ F6))) ++ (([] ++ ([] ++ ([] ++ F10))) ++ (F11 ++ F12))), rfl, rfl, ⟨[.int .i64 x0], [.slice A1 x1.length c1, .slice A2 x2.length c2], [], (F1 ++ F2), rfl, rfl, ⟨rfl, rfl⟩, ⟨[.slice A1 x1.length c1], [.slice A2 x2.length c2], F1, F2, rfl, rfl, h1, h2⟩⟩, ⟨[.int .i64 x3, .int .i64 x4, .int .i64 x5, .slice A6 x6.length c6], [.int .i64 x7, .int .i64 x8, .int .i64 x9, .slice A10 x10.length c10, .slice A11 x11.length c11, .slice A12 x12.length c12], ([] ++ ([] ++ ([] ++ F6))), (([] ++ ([] ++ ([] ++ F10))) ++ (F11 ++ F12)), rfl, rfl, ⟨[.int .i64 x3], [.int .i64 x4, .int .i64 x5, .slice A6 x6.length c6], [], ([] ++ ([] ++ F6)), rfl, rfl, ⟨rfl, rfl⟩, ⟨[.int .i64 x4], [.int .i64 x5, .slice A6 x6.length c6], [], ([] ++ F6), rfl, rfl, ⟨rfl, rfl⟩, ⟨[.int .i64 x5], [.slice A6 x6.length c6], [], F6, rfl, rfl, ⟨rfl, rfl⟩, h6⟩⟩⟩, ⟨[.int .i64 x7, .int .i64 x8, .int .i64 x9, .slice A10 x10.length c10], [.slice A11 x11.length c11, .slice A12 x12.length c12], ([] ++ ([] ++ ([] ++ F10))), (F11 ++ F12), rfl, rfl, ⟨[.int .i64 x7], [.int .i64 x8, .int .i64 x9, .slice A10 x10.length c10], [], ([] ++ ([] ++ F10)), rfl, rfl, ⟨rfl, rfl⟩, ⟨[.int .i64 x8], [.int .i64 x9, .slice A10 x10.length c10], [], ([] ++ F10), rfl, rfl, ⟨rfl, rfl⟩, ⟨[.int .i64 x9], [.slice A10 x10.length c10], [], F10, rfl, rfl, ⟨rfl, rfl⟩, h10⟩⟩⟩, ⟨[.slice A11 x11.length c11], [.slice A12 x12.length c12], F11, F12, rfl, rfl, h11, h12⟩⟩⟩⟩
theorem shCache_f0 {w : World} {lo hi : Nat} {x0 : Int} {x1 : List ByteArray} {x2 : List TyPut} {x3 : Int} {x4 : Int} {x5 : Int} {x6 : List TySeat} {x7 : Int} {x8 : Int} {x9 : Int} {x10 : List TySeat} {x11 : List TySeat} {x12 : List Int} {A1 : Option Addr} {c1 : Nat} {A2 : Option Addr} {c2 : Nat} {A6 : Option Addr} {c6 : Nat} {A10 : Option Addr} {c10 : Nat} {A11 : Option Addr} {c11 : Nat} {A12 : Option Addr} {c12 : Nat} (h : shCache.R w lo hi [.int .i64 x0, .slice A1 x1.length c1, .slice A2 x2.length c2, .int .i64 x3, .int .i64 x4, .int .i64 x5, .slice A6 x6.length c6, .int .i64 x7, .int .i64 x8, .int .i64 x9, .slice A10 x10.length c10, .slice A11 x11.length c11, .slice A12 x12.length c12] ((x0, x1, x2), (x3, x4, x5, x6), (x7, x8, x9, x10), x11, x12)) : (shDisk).R w lo hi [.int .i64 x0, .slice A1 x1.length c1, .slice A2 x2.length c2] (x0, x1, x2) := by
 obtain ⟨A1', c1', A2', c2', A6', c6', A10', c10', A11', c11', A12', c12', e, g1, g2, g6, g10, g11, g12⟩ := shCache_R.1 h
 simp only [List.cons.injEq, Value.slice.injEq] at e
 simp only [true_and, and_true] at e
 obtain ⟨⟨rfl, rfl⟩, ⟨rfl, rfl⟩, ⟨rfl, rfl⟩, ⟨rfl, rfl⟩, ⟨rfl, rfl⟩, ⟨rfl, rfl⟩⟩ := e
 exact shDisk_R.2 ⟨_, _, _, _, rfl, g1, g2⟩
theorem shCache_f3 {w : World} {lo hi : Nat} {x0 : Int} {x1 : List ByteArray} {x2 : List TyPut} {x3 : Int} {x4 : Int} {x5 : Int} {x6 : List TySeat} {x7 : Int} {x8 : Int} {x9 : Int} {x10 : List TySeat} {x11 : List TySeat} {x12 : List Int} {A1 : Option Addr} {c1 : Nat} {A2 : Option Addr} {c2 : Nat} {A6 : Option Addr} {c6 : Nat} {A10 : Option Addr} {c10 : Nat} {A11 : Option Addr} {c11 : Nat} {A12 : Option Addr} {c12 : Nat} (h : shCache.R w lo hi [.int .i64 x0, .slice A1 x1.length c1, .slice A2 x2.length c2, .int .i64 x3, .int .i64 x4, .int .i64 x5, .slice A6 x6.length c6, .int .i64 x7, .int .i64 x8, .int .i64 x9, .slice A10 x10.length c10, .slice A11 x11.length c11, .slice A12 x12.length c12] ((x0, x1, x2), (x3, x4, x5, x6), (x7, x8, x9, x10), x11, x12)) : (shTop).R w lo hi [.int .i64 x3, .int .i64 x4, .int .i64 x5, .slice A6 x6.length c6] (x3, x4, x5, x6) := by
 obtain ⟨A1', c1', A2', c2', A6', c6', A10', c10', A11', c11', A12', c12', e, g1, g2, g6, g10, g11, g12⟩ := shCache_R.1 h
 simp only [List.cons.injEq, Value.slice.injEq] at e
 simp only [true_and, and_true] at e
 obtain ⟨⟨rfl, rfl⟩, ⟨rfl, rfl⟩, ⟨rfl, rfl⟩, ⟨rfl, rfl⟩, ⟨rfl, rfl⟩, ⟨rfl, rfl⟩⟩ := e
 exact shTop_R.2 ⟨_, _, rfl, g6⟩
theorem shCache_f7 {w : World} {lo hi : Nat} {x0 : Int} {x1 : List ByteArray} {x2 : List TyPut} {x3 : Int} {x4 : Int} {x5 : Int} {x6 : List TySeat} {x7 : Int} {x8 : Int} {x9 : Int} {x10 : List TySeat} {x11 : List TySeat} {x12 : List Int} {A1 : Option Addr} {c1 : Nat} {A2 : Option Addr} {c2 : Nat} {A6 : Option Addr} {c6 : Nat} {A10 : Option Addr} {c10 : Nat} {A11 : Option Addr} {c11 : Nat} {A12 : Option Addr} {c12 : Nat} (h : shCache.R w lo hi [.int .i64 x0, .slice A1 x1.length c1, .slice A2 x2.length c2, .int .i64 x3, .int .i64 x4, .int .i64 x5, .slice A6 x6.length c6, .int .i64 x7, .int .i64 x8, .int .i64 x9, .slice A10 x10.length c10, .slice A11 x11.length c11, .slice A12 x12.length c12] ((x0, x1, x2), (x3, x4, x5, x6), (x7, x8, x9, x10), x11, x12)) : (shTop).R w lo hi [.int .i64 x7, .int .i64 x8, .int .i64 x9, .slice A10 x10.length c10] (x7, x8, x9, x10) := by
 obtain ⟨A1', c1', A2', c2', A6', c6', A10', c10', A11', c11', A12', c12', e, g1, g2, g6, g10, g11, g12⟩ := shCache_R.1 h
 simp only [List.cons.injEq, Value.slice.injEq] at e
 simp only [true_and, and_true] at e
 obtain ⟨⟨rfl, rfl⟩, ⟨rfl, rfl⟩, ⟨rfl, rfl⟩, ⟨rfl, rfl⟩, ⟨rfl, rfl⟩, ⟨rfl, rfl⟩⟩ := e
 exact shTop_R.2 ⟨_, _, rfl, g10⟩
theorem shCache_f11 {w : World} {lo hi : Nat} {x0 : Int} {x1 : List ByteArray} {x2 : List TyPut} {x3 : Int} {x4 : Int} {x5 : Int} {x6 : List TySeat} {x7 : Int} {x8 : Int} {x9 : Int} {x10 : List TySeat} {x11 : List TySeat} {x12 : List Int} {A1 : Option Addr} {c1 : Nat} {A2 : Option Addr} {c2 : Nat} {A6 : Option Addr} {c6 : Nat} {A10 : Option Addr} {c10 : Nat} {A11 : Option Addr} {c11 : Nat} {A12 : Option Addr} {c12 : Nat} (h : shCache.R w lo hi [.int .i64 x0, .slice A1 x1.length c1, .slice A2 x2.length c2, .int .i64 x3, .int .i64 x4, .int .i64 x5, .slice A6 x6.length c6, .int .i64 x7, .int .i64 x8, .int .i64 x9, .slice A10 x10.length c10, .slice A11 x11.length c11, .slice A12 x12.length c12] ((x0, x1, x2), (x3, x4, x5, x6), (x7, x8, x9, x10), x11, x12)) : (Sh.row 88 shSeat).R w lo hi [.slice A11 x11.length c11] x11 := by
 obtain ⟨A1', c1', A2', c2', A6', c6', A10', c10', A11', c11', A12', c12', e, g1, g2, g6, g10, g11, g12⟩ := shCache_R.1 h
 simp only [List.cons.injEq, Value.slice.injEq] at e
 simp only [true_and, and_true] at e
 obtain ⟨⟨rfl, rfl⟩, ⟨rfl, rfl⟩, ⟨rfl, rfl⟩, ⟨rfl, rfl⟩, ⟨rfl, rfl⟩, ⟨rfl, rfl⟩⟩ := e
 exact ⟨_, _, rfl, g11⟩
theorem shCache_f12 {w : World} {lo hi : Nat} {x0 : Int} {x1 : List ByteArray} {x2 : List TyPut} {x3 : Int} {x4 : Int} {x5 : Int} {x6 : List TySeat} {x7 : Int} {x8 : Int} {x9 : Int} {x10 : List TySeat} {x11 : List TySeat} {x12 : List Int} {A1 : Option Addr} {c1 : Nat} {A2 : Option Addr} {c2 : Nat} {A6 : Option Addr} {c6 : Nat} {A10 : Option Addr} {c10 : Nat} {A11 : Option Addr} {c11 : Nat} {A12 : Option Addr} {c12 : Nat} (h : shCache.R w lo hi [.int .i64 x0, .slice A1 x1.length c1, .slice A2 x2.length c2, .int .i64 x3, .int .i64 x4, .int .i64 x5, .slice A6 x6.length c6, .int .i64 x7, .int .i64 x8, .int .i64 x9, .slice A10 x10.length c10, .slice A11 x11.length c11, .slice A12 x12.length c12] ((x0, x1, x2), (x3, x4, x5, x6), (x7, x8, x9, x10), x11, x12)) : (Sh.row 2 shI).R w lo hi [.slice A12 x12.length c12] x12 := by
 obtain ⟨A1', c1', A2', c2', A6', c6', A10', c10', A11', c11', A12', c12', e, g1, g2, g6, g10, g11, g12⟩ := shCache_R.1 h
 simp only [List.cons.injEq, Value.slice.injEq] at e
 simp only [true_and, and_true] at e
 obtain ⟨⟨rfl, rfl⟩, ⟨rfl, rfl⟩, ⟨rfl, rfl⟩, ⟨rfl, rfl⟩, ⟨rfl, rfl⟩, ⟨rfl, rfl⟩⟩ := e
 exact ⟨_, _, rfl, g12⟩
theorem shCache_cost (x0 : Int) (x1 : List ByteArray) (x2 : List TyPut) (x3 : Int) (x4 : Int) (x5 : Int) (x6 : List TySeat) (x7 : Int) (x8 : Int) (x9 : Int) (x10 : List TySeat) (x11 : List TySeat) (x12 : List Int) : shCache.cost ((x0, x1, x2), (x3, x4, x5, x6), (x7, x8, x9, x10), x11, x12) = (shDisk).cost (x0, x1, x2) + ((shTop).cost (x3, x4, x5, x6) + ((shTop).cost (x7, x8, x9, x10) + ((Sh.row 88 shSeat).cost x11 + ((Sh.row 2 shI).cost x12)))) := rfl
theorem shCache_top (x0 : Int) (x1 : List ByteArray) (x2 : List TyPut) (x3 : Int) (x4 : Int) (x5 : Int) (x6 : List TySeat) (x7 : Int) (x8 : Int) (x9 : Int) (x10 : List TySeat) (x11 : List TySeat) (x12 : List Int) : shCache.cntTop ((x0, x1, x2), (x3, x4, x5, x6), (x7, x8, x9, x10), x11, x12) = (shDisk).cntTop (x0, x1, x2) + ((shTop).cntTop (x3, x4, x5, x6) + ((shTop).cntTop (x7, x8, x9, x10) + ((Sh.row 88 shSeat).cnt x11 + ((Sh.row 2 shI).cnt x12)))) := rfl
theorem shCache_fit {m : Nat} (x0 : Int) (x1 : List ByteArray) (x2 : List TyPut) (x3 : Int) (x4 : Int) (x5 : Int) (x6 : List TySeat) (x7 : Int) (x8 : Int) (x9 : Int) (x10 : List TySeat) (x11 : List TySeat) (x12 : List Int) : shCache.fit m ((x0, x1, x2), (x3, x4, x5, x6), (x7, x8, x9, x10), x11, x12) ↔ (shDisk).fit m (x0, x1, x2) ∧ (shTop).fit m (x3, x4, x5, x6) ∧ (shTop).fit m (x7, x8, x9, x10) ∧ (Sh.row 88 shSeat).fit m x11 ∧ (Sh.row 2 shI).fit m x12 := Iff.rfl
abbrev TyPage := Bool × List ByteArray × List ByteArray × List Int
def shPage : Sh TyPage := Sh.prod (shB) (Sh.prod (Sh.row 9 shS) (Sh.prod (Sh.row 9 shS) (Sh.row 2 shI)))
theorem shPage_R {w : World} {lo hi : Nat} {vs : List Value} {x0 : Bool} {x1 : List ByteArray} {x2 : List ByteArray} {x3 : List Int} : shPage.R w lo hi vs (x0, x1, x2, x3) ↔ ∃ A1 c1, ∃ A2 c2, ∃ A3 c3, vs = [.bool x0, .slice A1 x1.length c1, .slice A2 x2.length c2, .slice A3 x3.length c3] ∧ RowG shS w lo hi A1 x1 ∧ RowG shS w lo hi A2 x2 ∧ RowG shI w lo hi A3 x3 := by
 constructor
 ·rintro ⟨_, _, rfl, rfl, ⟨_, _, rfl, ⟨A1, c1, rfl, g1⟩, ⟨_, _, rfl, ⟨A2, c2, rfl, g2⟩, ⟨A3, c3, rfl, g3⟩⟩⟩⟩
  exact ⟨A1, c1, A2, c2, A3, c3, rfl, g1, g2, g3⟩
 ·rintro ⟨A1, c1, A2, c2, A3, c3, rfl, g1, g2, g3⟩
  exact ⟨[.bool x0], [.slice A1 x1.length c1, .slice A2 x2.length c2, .slice A3 x3.length c3], rfl, rfl, ⟨[.slice A1 x1.length c1], [.slice A2 x2.length c2, .slice A3 x3.length c3], rfl, ⟨A1, c1, rfl, g1⟩, ⟨[.slice A2 x2.length c2], [.slice A3 x3.length c3], rfl, ⟨A2, c2, rfl, g2⟩, ⟨A3, c3, rfl, g3⟩⟩⟩⟩
theorem shPage_f1 {w : World} {lo hi : Nat} {x0 : Bool} {x1 : List ByteArray} {x2 : List ByteArray} {x3 : List Int} {A1 : Option Addr} {c1 : Nat} {A2 : Option Addr} {c2 : Nat} {A3 : Option Addr} {c3 : Nat} (h : shPage.R w lo hi [.bool x0, .slice A1 x1.length c1, .slice A2 x2.length c2, .slice A3 x3.length c3] (x0, x1, x2, x3)) : (Sh.row 9 shS).R w lo hi [.slice A1 x1.length c1] x1 := by
 obtain ⟨A1', c1', A2', c2', A3', c3', e, g1, g2, g3⟩ := shPage_R.1 h
 simp only [List.cons.injEq, Value.slice.injEq] at e
 simp only [true_and, and_true] at e
 obtain ⟨⟨rfl, rfl⟩, ⟨rfl, rfl⟩, ⟨rfl, rfl⟩⟩ := e
 exact ⟨_, _, rfl, g1⟩
theorem shPage_f2 {w : World} {lo hi : Nat} {x0 : Bool} {x1 : List ByteArray} {x2 : List ByteArray} {x3 : List Int} {A1 : Option Addr} {c1 : Nat} {A2 : Option Addr} {c2 : Nat} {A3 : Option Addr} {c3 : Nat} (h : shPage.R w lo hi [.bool x0, .slice A1 x1.length c1, .slice A2 x2.length c2, .slice A3 x3.length c3] (x0, x1, x2, x3)) : (Sh.row 9 shS).R w lo hi [.slice A2 x2.length c2] x2 := by
 obtain ⟨A1', c1', A2', c2', A3', c3', e, g1, g2, g3⟩ := shPage_R.1 h
 simp only [List.cons.injEq, Value.slice.injEq] at e
 simp only [true_and, and_true] at e
 obtain ⟨⟨rfl, rfl⟩, ⟨rfl, rfl⟩, ⟨rfl, rfl⟩⟩ := e
 exact ⟨_, _, rfl, g2⟩
theorem shPage_f3 {w : World} {lo hi : Nat} {x0 : Bool} {x1 : List ByteArray} {x2 : List ByteArray} {x3 : List Int} {A1 : Option Addr} {c1 : Nat} {A2 : Option Addr} {c2 : Nat} {A3 : Option Addr} {c3 : Nat} (h : shPage.R w lo hi [.bool x0, .slice A1 x1.length c1, .slice A2 x2.length c2, .slice A3 x3.length c3] (x0, x1, x2, x3)) : (Sh.row 2 shI).R w lo hi [.slice A3 x3.length c3] x3 := by
 obtain ⟨A1', c1', A2', c2', A3', c3', e, g1, g2, g3⟩ := shPage_R.1 h
 simp only [List.cons.injEq, Value.slice.injEq] at e
 simp only [true_and, and_true] at e
 obtain ⟨⟨rfl, rfl⟩, ⟨rfl, rfl⟩, ⟨rfl, rfl⟩⟩ := e
 exact ⟨_, _, rfl, g3⟩
theorem shPage_cost (x0 : Bool) (x1 : List ByteArray) (x2 : List ByteArray) (x3 : List Int) : shPage.cost (x0, x1, x2, x3) = 0 + ((Sh.row 9 shS).cost x1 + ((Sh.row 9 shS).cost x2 + ((Sh.row 2 shI).cost x3))) := rfl
theorem shPage_fit {m : Nat} (x0 : Bool) (x1 : List ByteArray) (x2 : List ByteArray) (x3 : List Int) : shPage.fit m (x0, x1, x2, x3) ↔ 0 ≤ m ∧ (Sh.row 9 shS).fit m x1 ∧ (Sh.row 9 shS).fit m x2 ∧ (Sh.row 2 shI).fit m x3 := Iff.rfl
abbrev TySlot := Int × TyPage
def shSlot : Sh TySlot := Sh.prod (shI) (shPage)
theorem shSlot_k : shSlot.k = 5 := rfl
theorem shSlot_R {w : World} {lo hi : Nat} {vs : List Value} {x0 : Int} {x1 : Bool} {x2 : List ByteArray} {x3 : List ByteArray} {x4 : List Int} : shSlot.R w lo hi vs (x0, (x1, x2, x3, x4)) ↔ ∃ A2 c2, ∃ A3 c3, ∃ A4 c4, vs = [.int .i64 x0, .bool x1, .slice A2 x2.length c2, .slice A3 x3.length c3, .slice A4 x4.length c4] ∧ RowG shS w lo hi A2 x2 ∧ RowG shS w lo hi A3 x3 ∧ RowG shI w lo hi A4 x4 := by
 constructor
 ·rintro ⟨_, _, rfl, rfl, ⟨_, _, rfl, rfl, ⟨_, _, rfl, ⟨A2, c2, rfl, g2⟩, ⟨_, _, rfl, ⟨A3, c3, rfl, g3⟩, ⟨A4, c4, rfl, g4⟩⟩⟩⟩⟩
  exact ⟨A2, c2, A3, c3, A4, c4, rfl, g2, g3, g4⟩
 ·rintro ⟨A2, c2, A3, c3, A4, c4, rfl, g2, g3, g4⟩
  exact ⟨[.int .i64 x0], [.bool x1, .slice A2 x2.length c2, .slice A3 x3.length c3, .slice A4 x4.length c4], rfl, rfl, ⟨[.bool x1], [.slice A2 x2.length c2, .slice A3 x3.length c3, .slice A4 x4.length c4], rfl, rfl, ⟨[.slice A2 x2.length c2], [.slice A3 x3.length c3, .slice A4 x4.length c4], rfl, ⟨A2, c2, rfl, g2⟩, ⟨[.slice A3 x3.length c3], [.slice A4 x4.length c4], rfl, ⟨A3, c3, rfl, g3⟩, ⟨A4, c4, rfl, g4⟩⟩⟩⟩⟩
theorem shSlot_O {w : World} {F : List Nat} {vs : List Value} {x0 : Int} {x1 : Bool} {x2 : List ByteArray} {x3 : List ByteArray} {x4 : List Int} : shSlot.O w F vs (x0, (x1, x2, x3, x4)) ↔ ∃ A2 c2 F2, ∃ A3 c3 F3, ∃ A4 c4 F4, vs = [.int .i64 x0, .bool x1, .slice A2 x2.length c2, .slice A3 x3.length c3, .slice A4 x4.length c4] ∧ F = ([] ++ ([] ++ (F2 ++ (F3 ++ F4)))) ∧ (Sh.row 9 shS).O w F2 [.slice A2 x2.length c2] x2 ∧ (Sh.row 9 shS).O w F3 [.slice A3 x3.length c3] x3 ∧ (Sh.row 2 shI).O w F4 [.slice A4 x4.length c4] x4 := by
 constructor
 ·rintro ⟨_, _, _, _, rfl, rfl, ⟨rfl, rfl⟩, ⟨_, _, _, _, rfl, rfl, ⟨rfl, rfl⟩, ⟨_, _, _, _, rfl, rfl, h2, ⟨_, _, _, _, rfl, rfl, h3, h4⟩⟩⟩⟩
  have h2' := h2; obtain ⟨A2, c2, _, _, rfl, _⟩ := h2
  have h3' := h3; obtain ⟨A3, c3, _, _, rfl, _⟩ := h3
  have h4' := h4; obtain ⟨A4, c4, _, _, rfl, _⟩ := h4
  exact ⟨A2, c2, _, A3, c3, _, A4, c4, _, rfl, rfl, h2', h3', h4'⟩
 ·rintro ⟨A2, c2, F2, A3, c3, F3, A4, c4, F4, q1, q2, h2, h3, h4⟩
  rw [q1, q2]
  exact ⟨[.int .i64 x0], [.bool x1, .slice A2 x2.length c2, .slice A3 x3.length c3, .slice A4 x4.length c4], [], ([] ++ (F2 ++ (F3 ++ F4))), rfl, rfl, ⟨rfl, rfl⟩, ⟨[.bool x1], [.slice A2 x2.length c2, .slice A3 x3.length c3, .slice A4 x4.length c4], [], (F2 ++ (F3 ++ F4)), rfl, rfl, ⟨rfl, rfl⟩, ⟨[.slice A2 x2.length c2], [.slice A3 x3.length c3, .slice A4 x4.length c4], F2, (F3 ++ F4), rfl, rfl, h2, ⟨[.slice A3 x3.length c3], [.slice A4 x4.length c4], F3, F4, rfl, rfl, h3, h4⟩⟩⟩⟩
theorem shSlot_f1 {w : World} {lo hi : Nat} {x0 : Int} {x1 : Bool} {x2 : List ByteArray} {x3 : List ByteArray} {x4 : List Int} {A2 : Option Addr} {c2 : Nat} {A3 : Option Addr} {c3 : Nat} {A4 : Option Addr} {c4 : Nat} (h : shSlot.R w lo hi [.int .i64 x0, .bool x1, .slice A2 x2.length c2, .slice A3 x3.length c3, .slice A4 x4.length c4] (x0, (x1, x2, x3, x4))) : (shPage).R w lo hi [.bool x1, .slice A2 x2.length c2, .slice A3 x3.length c3, .slice A4 x4.length c4] (x1, x2, x3, x4) := by
 obtain ⟨A2', c2', A3', c3', A4', c4', e, g2, g3, g4⟩ := shSlot_R.1 h
 simp only [List.cons.injEq, Value.slice.injEq] at e
 simp only [true_and, and_true] at e
 obtain ⟨⟨rfl, rfl⟩, ⟨rfl, rfl⟩, ⟨rfl, rfl⟩⟩ := e
 exact shPage_R.2 ⟨_, _, _, _, _, _, rfl, g2, g3, g4⟩
theorem infoSlot : (Tryz.prog.info? 85).map (fun i => (i.zero, i.size, i.bytes)) = some (some (.agg zz12), 5, 88) := by kernel_rfl
def zeroSlot : Array Value := zz12
theorem shSlot_cost (x0 : Int) (x1 : Bool) (x2 : List ByteArray) (x3 : List ByteArray) (x4 : List Int) : shSlot.cost (x0, (x1, x2, x3, x4)) = 0 + ((shPage).cost (x1, x2, x3, x4)) := rfl
theorem shSlot_cnt (x0 : Int) (x1 : Bool) (x2 : List ByteArray) (x3 : List ByteArray) (x4 : List Int) : shSlot.cnt (x0, (x1, x2, x3, x4)) = 1 + ((1 + ((Sh.row 9 shS).cnt x2 + ((Sh.row 9 shS).cnt x3 + ((Sh.row 2 shI).cnt x4))))) := rfl
theorem shSlot_fit {m : Nat} (x0 : Int) (x1 : Bool) (x2 : List ByteArray) (x3 : List ByteArray) (x4 : List Int) : shSlot.fit m (x0, (x1, x2, x3, x4)) ↔ 0 ≤ m ∧ (shPage).fit m (x1, x2, x3, x4) := Iff.rfl
theorem shSlot_at {w : World} {lo hi : Nat} {A : Option Addr} {n c : Nat} {xs : List TySlot} {t : TypeId} (h : (Sh.row t shSlot).R w lo hi [.slice A n c] xs) {j : Nat} (hj : j < n) :
  xs.length = n ∧ ∃ b off, A = some ⟨b, off, none⟩ ∧ lo ≤ b ∧ b < hi ∧ ∃ (A2 : Option Addr) (c2 : Nat), ∃ (A3 : Option Addr) (c3 : Nat), ∃ (A4 : Option Addr) (c4 : Nat), w.cell? ⟨b, off + j * 5, none⟩ = some (.int .i64 (xs.getD j shSlot.d).1) ∧ w.cell? ⟨b, off + j * 5 + 1, none⟩ = some (.bool (xs.getD j shSlot.d).2.1) ∧ w.cell? ⟨b, off + j * 5 + 2, none⟩ = some (.slice A2 (xs.getD j shSlot.d).2.2.1.length c2) ∧ w.cell? ⟨b, off + j * 5 + 3, none⟩ = some (.slice A3 (xs.getD j shSlot.d).2.2.2.1.length c3) ∧ w.cell? ⟨b, off + j * 5 + 4, none⟩ = some (.slice A4 (xs.getD j shSlot.d).2.2.2.2.length c4) ∧ shSlot.R w lo hi [.int .i64 (xs.getD j shSlot.d).1, .bool (xs.getD j shSlot.d).2.1, .slice A2 (xs.getD j shSlot.d).2.2.1.length c2, .slice A3 (xs.getD j shSlot.d).2.2.2.1.length c3, .slice A4 (xs.getD j shSlot.d).2.2.2.2.length c4] (xs.getD j shSlot.d) := by
 obtain ⟨A', c', e, h⟩ := h
 injection e with e _
 injection e with e1 e2 e3
 subst e1 e2
 obtain ⟨b, off, rfl, h1, h2, hc⟩ := h (by omega)
 obtain ⟨us, h3, h4⟩ := hc j hj
 have h5 := h4
 obtain ⟨A2, c2, A3, c3, A4, c4, rfl, _, _, _⟩ := shSlot_R.1 h4
 exact ⟨rfl, b, off, rfl, h1, h2, A2, c2, A3, c3, A4, c4, h3 0 (by simp), h3 1 (by simp), h3 2 (by simp), h3 3 (by simp), h3 4 (by simp), h5⟩
abbrev TyBtree := Int × List TySlot
def shBtree : Sh TyBtree := Sh.prod (shI) (Sh.row 85 shSlot)
theorem shBtree_R {w : World} {lo hi : Nat} {vs : List Value} {x0 : Int} {x1 : List TySlot} : shBtree.R w lo hi vs (x0, x1) ↔ ∃ A1 c1, vs = [.int .i64 x0, .slice A1 x1.length c1] ∧ RowG shSlot w lo hi A1 x1 := by
 constructor
 ·rintro ⟨_, _, rfl, rfl, ⟨A1, c1, rfl, g1⟩⟩
  exact ⟨A1, c1, rfl, g1⟩
 ·rintro ⟨A1, c1, rfl, g1⟩
  exact ⟨[.int .i64 x0], [.slice A1 x1.length c1], rfl, rfl, ⟨A1, c1, rfl, g1⟩⟩
theorem shBtree_O {w : World} {F : List Nat} {vs : List Value} {x0 : Int} {x1 : List TySlot} : shBtree.O w F vs (x0, x1) ↔ ∃ A1 c1 F1, vs = [.int .i64 x0, .slice A1 x1.length c1] ∧ F = ([] ++ F1) ∧ (Sh.row 85 shSlot).O w F1 [.slice A1 x1.length c1] x1 := by
 constructor
 ·rintro ⟨_, _, _, _, rfl, rfl, ⟨rfl, rfl⟩, h1⟩
  have h1' := h1; obtain ⟨A1, c1, _, _, rfl, _⟩ := h1
  exact ⟨A1, c1, _, rfl, rfl, h1'⟩
 ·rintro ⟨A1, c1, F1, q1, q2, h1⟩
  rw [q1, q2]
  exact ⟨[.int .i64 x0], [.slice A1 x1.length c1], [], F1, rfl, rfl, ⟨rfl, rfl⟩, h1⟩
theorem shBtree_f1 {w : World} {lo hi : Nat} {x0 : Int} {x1 : List TySlot} {A1 : Option Addr} {c1 : Nat} (h : shBtree.R w lo hi [.int .i64 x0, .slice A1 x1.length c1] (x0, x1)) : (Sh.row 85 shSlot).R w lo hi [.slice A1 x1.length c1] x1 := by
 obtain ⟨A1', c1', e, g1⟩ := shBtree_R.1 h
 simp only [List.cons.injEq, Value.slice.injEq] at e
 simp only [true_and, and_true] at e
 obtain ⟨rfl, rfl⟩ := e
 exact ⟨_, _, rfl, g1⟩
theorem shBtree_cost (x0 : Int) (x1 : List TySlot) : shBtree.cost (x0, x1) = 0 + ((Sh.row 85 shSlot).cost x1) := rfl
theorem shBtree_top (x0 : Int) (x1 : List TySlot) : shBtree.cntTop (x0, x1) = 0 + ((Sh.row 85 shSlot).cnt x1) := rfl
theorem shBtree_fit {m : Nat} (x0 : Int) (x1 : List TySlot) : shBtree.fit m (x0, x1) ↔ 0 ≤ m ∧ (Sh.row 85 shSlot).fit m x1 := Iff.rfl
end Go.Proofs.YtnnabkldceklmaaGreatDoor
