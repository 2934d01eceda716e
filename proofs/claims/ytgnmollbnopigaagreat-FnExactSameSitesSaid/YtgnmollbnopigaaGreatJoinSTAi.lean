/- Ins, Entry, Program, Trigger, Lock, Ask, Locks, Event, Trans, Batch, Put, Disk, Seat, Top, Cache, Journal, Page, Slot, Btree: shapes and the laws' walks (sh). Printed by gen_fam.py. -/
import Derived.Test.YtgnmollbnopigaaGreatJoinSTAf
import Derived.Test.YtgnmollbnopigaaGreatJoinSTAg
namespace Go.Proofs.YtgnmollbnopigaaGreat
open Go.RowKit
abbrev TyIns := Int × Int × Int × ByteArray
def shIns : Sh TyIns := Sh.prod (shI) (Sh.prod (shI) (Sh.prod (shI) (shS)))
theorem shIns_R {w : World} {lo hi : Nat} {vs : List Value} {x0 : Int} {x1 : Int} {x2 : Int} {x3 : ByteArray} : shIns.R w lo hi vs (x0, x1, x2, x3) ↔ vs = [.int .i64 x0, .int .i64 x1, .int .i64 x2, .string x3] := by
 constructor
 ·rintro ⟨_, _, rfl, rfl, ⟨_, _, rfl, rfl, ⟨_, _, rfl, rfl, rfl⟩⟩⟩
  exact rfl
 ·rintro rfl
  exact ⟨[.int .i64 x0], [.int .i64 x1, .int .i64 x2, .string x3], rfl, rfl, ⟨[.int .i64 x1], [.int .i64 x2, .string x3], rfl, rfl, ⟨[.int .i64 x2], [.string x3], rfl, rfl, rfl⟩⟩⟩
theorem infoIns : (Tryz.prog.info? 226).map (fun i => (i.zero, i.size, i.bytes)) = some (some (.agg zz3), 4, 40) := by kernel_rfl
def zeroIns : Array Value := zz3
theorem shIns_cost (x0 : Int) (x1 : Int) (x2 : Int) (x3 : ByteArray) : shIns.cost (x0, x1, x2, x3) = 0 + (0 + (0 + (x3.size))) := rfl
theorem shIns_fit {m : Nat} (x0 : Int) (x1 : Int) (x2 : Int) (x3 : ByteArray) : shIns.fit m (x0, x1, x2, x3) ↔ 0 ≤ m ∧ 0 ≤ m ∧ 0 ≤ m ∧ x3.size ≤ m := Iff.rfl
theorem shIns_at {w : World} {lo hi : Nat} {A : Option Addr} {n c : Nat} {xs : List TyIns} {t : TypeId} (h : (Sh.row t shIns).R w lo hi [.slice A n c] xs) {j : Nat} (hj : j < n) :
  xs.length = n ∧ ∃ b off, A = some ⟨b, off, none⟩ ∧ lo ≤ b ∧ b < hi ∧ w.cell? ⟨b, off + j * 4, none⟩ = some (.int .i64 (xs.getD j shIns.d).1) ∧ w.cell? ⟨b, off + j * 4 + 1, none⟩ = some (.int .i64 (xs.getD j shIns.d).2.1) ∧ w.cell? ⟨b, off + j * 4 + 2, none⟩ = some (.int .i64 (xs.getD j shIns.d).2.2.1) ∧ w.cell? ⟨b, off + j * 4 + 3, none⟩ = some (.string (xs.getD j shIns.d).2.2.2) ∧ shIns.R w lo hi [.int .i64 (xs.getD j shIns.d).1, .int .i64 (xs.getD j shIns.d).2.1, .int .i64 (xs.getD j shIns.d).2.2.1, .string (xs.getD j shIns.d).2.2.2] (xs.getD j shIns.d) := by
 obtain ⟨A', c', e, h⟩ := h
 injection e with e _
 injection e with e1 e2 e3
 subst e1 e2
 obtain ⟨b, off, rfl, h1, h2, hc⟩ := h (by omega)
 obtain ⟨us, h3, h4⟩ := hc j hj
 have h5 := h4
 obtain rfl := shIns_R.1 h4
 exact ⟨rfl, b, off, rfl, h1, h2, h3 0 (by simp), h3 1 (by simp), h3 2 (by simp), h3 3 (by simp), h5⟩
abbrev TyEntry := ByteArray × ByteArray × Int × List ByteArray
def shEntry : Sh TyEntry := Sh.prod (shS) (Sh.prod (shS) (Sh.prod (shI) (Sh.row 9 shS)))
theorem shEntry_R {w : World} {lo hi : Nat} {vs : List Value} {x0 : ByteArray} {x1 : ByteArray} {x2 : Int} {x3 : List ByteArray} : shEntry.R w lo hi vs (x0, x1, x2, x3) ↔ ∃ A3 c3, vs = [.string x0, .string x1, .int .i64 x2, .slice A3 x3.length c3] ∧ RowG shS w lo hi A3 x3 := by
 constructor
 ·rintro ⟨_, _, rfl, rfl, ⟨_, _, rfl, rfl, ⟨_, _, rfl, rfl, ⟨A3, c3, rfl, g3⟩⟩⟩⟩
  exact ⟨A3, c3, rfl, g3⟩
 ·rintro ⟨A3, c3, rfl, g3⟩
  exact ⟨[.string x0], [.string x1, .int .i64 x2, .slice A3 x3.length c3], rfl, rfl, ⟨[.string x1], [.int .i64 x2, .slice A3 x3.length c3], rfl, rfl, ⟨[.int .i64 x2], [.slice A3 x3.length c3], rfl, rfl, ⟨A3, c3, rfl, g3⟩⟩⟩⟩
theorem shEntry_f3 {w : World} {lo hi : Nat} {x0 : ByteArray} {x1 : ByteArray} {x2 : Int} {x3 : List ByteArray} {A3 : Option Addr} {c3 : Nat} (h : shEntry.R w lo hi [.string x0, .string x1, .int .i64 x2, .slice A3 x3.length c3] (x0, x1, x2, x3)) : (Sh.row 9 shS).R w lo hi [.slice A3 x3.length c3] x3 := by
 obtain ⟨A3', c3', e, g3⟩ := shEntry_R.1 h
 simp only [List.cons.injEq, Value.slice.injEq] at e
 simp only [true_and, and_true] at e
 obtain ⟨rfl, rfl⟩ := e
 exact ⟨_, _, rfl, g3⟩
theorem infoEntry : (Tryz.prog.info? 228).map (fun i => (i.zero, i.size, i.bytes)) = some (some (.agg zz4), 4, 64) := by kernel_rfl
def zeroEntry : Array Value := zz4
theorem shEntry_cost (x0 : ByteArray) (x1 : ByteArray) (x2 : Int) (x3 : List ByteArray) : shEntry.cost (x0, x1, x2, x3) = x0.size + (x1.size + (0 + ((Sh.row 9 shS).cost x3))) := rfl
theorem shEntry_fit {m : Nat} (x0 : ByteArray) (x1 : ByteArray) (x2 : Int) (x3 : List ByteArray) : shEntry.fit m (x0, x1, x2, x3) ↔ x0.size ≤ m ∧ x1.size ≤ m ∧ 0 ≤ m ∧ (Sh.row 9 shS).fit m x3 := Iff.rfl
theorem shEntry_at {w : World} {lo hi : Nat} {A : Option Addr} {n c : Nat} {xs : List TyEntry} {t : TypeId} (h : (Sh.row t shEntry).R w lo hi [.slice A n c] xs) {j : Nat} (hj : j < n) :
  xs.length = n ∧ ∃ b off, A = some ⟨b, off, none⟩ ∧ lo ≤ b ∧ b < hi ∧ ∃ (A3 : Option Addr) (c3 : Nat), w.cell? ⟨b, off + j * 4, none⟩ = some (.string (xs.getD j shEntry.d).1) ∧ w.cell? ⟨b, off + j * 4 + 1, none⟩ = some (.string (xs.getD j shEntry.d).2.1) ∧ w.cell? ⟨b, off + j * 4 + 2, none⟩ = some (.int .i64 (xs.getD j shEntry.d).2.2.1) ∧ w.cell? ⟨b, off + j * 4 + 3, none⟩ = some (.slice A3 (xs.getD j shEntry.d).2.2.2.length c3) ∧ shEntry.R w lo hi [.string (xs.getD j shEntry.d).1, .string (xs.getD j shEntry.d).2.1, .int .i64 (xs.getD j shEntry.d).2.2.1, .slice A3 (xs.getD j shEntry.d).2.2.2.length c3] (xs.getD j shEntry.d) := by
 obtain ⟨A', c', e, h⟩ := h
 injection e with e _
 injection e with e1 e2 e3
 subst e1 e2
 obtain ⟨b, off, rfl, h1, h2, hc⟩ := h (by omega)
 obtain ⟨us, h3, h4⟩ := hc j hj
 have h5 := h4
 obtain ⟨A3, c3, rfl, _⟩ := shEntry_R.1 h4
 exact ⟨rfl, b, off, rfl, h1, h2, A3, c3, h3 0 (by simp), h3 1 (by simp), h3 2 (by simp), h3 3 (by simp), h5⟩
abbrev TyProgram := List TyIns × List TyEntry
def shProgram : Sh TyProgram := Sh.prod (Sh.row 226 shIns) (Sh.row 228 shEntry)
theorem shProgram_R {w : World} {lo hi : Nat} {vs : List Value} {x0 : List TyIns} {x1 : List TyEntry} : shProgram.R w lo hi vs (x0, x1) ↔ ∃ A0 c0, ∃ A1 c1, vs = [.slice A0 x0.length c0, .slice A1 x1.length c1] ∧ RowG shIns w lo hi A0 x0 ∧ RowG shEntry w lo hi A1 x1 := by
 constructor
 ·rintro ⟨_, _, rfl, ⟨A0, c0, rfl, g0⟩, ⟨A1, c1, rfl, g1⟩⟩
  exact ⟨A0, c0, A1, c1, rfl, g0, g1⟩
 ·rintro ⟨A0, c0, A1, c1, rfl, g0, g1⟩
  exact ⟨[.slice A0 x0.length c0], [.slice A1 x1.length c1], rfl, ⟨A0, c0, rfl, g0⟩, ⟨A1, c1, rfl, g1⟩⟩
theorem shProgram_f0 {w : World} {lo hi : Nat} {x0 : List TyIns} {x1 : List TyEntry} {A0 : Option Addr} {c0 : Nat} {A1 : Option Addr} {c1 : Nat} (h : shProgram.R w lo hi [.slice A0 x0.length c0, .slice A1 x1.length c1] (x0, x1)) : (Sh.row 226 shIns).R w lo hi [.slice A0 x0.length c0] x0 := by
 obtain ⟨A0', c0', A1', c1', e, g0, g1⟩ := shProgram_R.1 h
 simp only [List.cons.injEq, Value.slice.injEq] at e
 simp only [true_and, and_true] at e
 obtain ⟨⟨rfl, rfl⟩, ⟨rfl, rfl⟩⟩ := e
 exact ⟨_, _, rfl, g0⟩
theorem shProgram_f1 {w : World} {lo hi : Nat} {x0 : List TyIns} {x1 : List TyEntry} {A0 : Option Addr} {c0 : Nat} {A1 : Option Addr} {c1 : Nat} (h : shProgram.R w lo hi [.slice A0 x0.length c0, .slice A1 x1.length c1] (x0, x1)) : (Sh.row 228 shEntry).R w lo hi [.slice A1 x1.length c1] x1 := by
 obtain ⟨A0', c0', A1', c1', e, g0, g1⟩ := shProgram_R.1 h
 simp only [List.cons.injEq, Value.slice.injEq] at e
 simp only [true_and, and_true] at e
 obtain ⟨⟨rfl, rfl⟩, ⟨rfl, rfl⟩⟩ := e
 exact ⟨_, _, rfl, g1⟩
theorem shProgram_cost (x0 : List TyIns) (x1 : List TyEntry) : shProgram.cost (x0, x1) = (Sh.row 226 shIns).cost x0 + ((Sh.row 228 shEntry).cost x1) := rfl
theorem shProgram_fit {m : Nat} (x0 : List TyIns) (x1 : List TyEntry) : shProgram.fit m (x0, x1) ↔ (Sh.row 226 shIns).fit m x0 ∧ (Sh.row 228 shEntry).fit m x1 := Iff.rfl
abbrev TyTrigger := Int × ByteArray × List ByteArray × Bool × Bool × ByteArray × ByteArray
def shTrigger : Sh TyTrigger := Sh.prod (shI) (Sh.prod (shS) (Sh.prod (Sh.row 9 shS) (Sh.prod (shB) (Sh.prod (shB) (Sh.prod (shS) (shS))))))
theorem shTrigger_R {w : World} {lo hi : Nat} {vs : List Value} {x0 : Int} {x1 : ByteArray} {x2 : List ByteArray} {x3 : Bool} {x4 : Bool} {x5 : ByteArray} {x6 : ByteArray} : shTrigger.R w lo hi vs (x0, x1, x2, x3, x4, x5, x6) ↔ ∃ A2 c2, vs = [.int .i64 x0, .string x1, .slice A2 x2.length c2, .bool x3, .bool x4, .string x5, .string x6] ∧ RowG shS w lo hi A2 x2 := by
 constructor
 ·rintro ⟨_, _, rfl, rfl, ⟨_, _, rfl, rfl, ⟨_, _, rfl, ⟨A2, c2, rfl, g2⟩, ⟨_, _, rfl, rfl, ⟨_, _, rfl, rfl, ⟨_, _, rfl, rfl, rfl⟩⟩⟩⟩⟩⟩
  exact ⟨A2, c2, rfl, g2⟩
 ·rintro ⟨A2, c2, rfl, g2⟩
  exact ⟨[.int .i64 x0], [.string x1, .slice A2 x2.length c2, .bool x3, .bool x4, .string x5, .string x6], rfl, rfl, ⟨[.string x1], [.slice A2 x2.length c2, .bool x3, .bool x4, .string x5, .string x6], rfl, rfl, ⟨[.slice A2 x2.length c2], [.bool x3, .bool x4, .string x5, .string x6], rfl, ⟨A2, c2, rfl, g2⟩, ⟨[.bool x3], [.bool x4, .string x5, .string x6], rfl, rfl, ⟨[.bool x4], [.string x5, .string x6], rfl, rfl, ⟨[.string x5], [.string x6], rfl, rfl, rfl⟩⟩⟩⟩⟩⟩
theorem shTrigger_f2 {w : World} {lo hi : Nat} {x0 : Int} {x1 : ByteArray} {x2 : List ByteArray} {x3 : Bool} {x4 : Bool} {x5 : ByteArray} {x6 : ByteArray} {A2 : Option Addr} {c2 : Nat} (h : shTrigger.R w lo hi [.int .i64 x0, .string x1, .slice A2 x2.length c2, .bool x3, .bool x4, .string x5, .string x6] (x0, x1, x2, x3, x4, x5, x6)) : (Sh.row 9 shS).R w lo hi [.slice A2 x2.length c2] x2 := by
 obtain ⟨A2', c2', e, g2⟩ := shTrigger_R.1 h
 simp only [List.cons.injEq, Value.slice.injEq] at e
 simp only [true_and, and_true] at e
 obtain ⟨rfl, rfl⟩ := e
 exact ⟨_, _, rfl, g2⟩
theorem infoTrigger : (Tryz.prog.info? 229).map (fun i => (i.zero, i.size, i.bytes)) = some (some (.agg zz5), 7, 88) := by kernel_rfl
def zeroTrigger : Array Value := zz5
theorem shTrigger_cost (x0 : Int) (x1 : ByteArray) (x2 : List ByteArray) (x3 : Bool) (x4 : Bool) (x5 : ByteArray) (x6 : ByteArray) : shTrigger.cost (x0, x1, x2, x3, x4, x5, x6) = 0 + (x1.size + ((Sh.row 9 shS).cost x2 + (0 + (0 + (x5.size + (x6.size)))))) := rfl
theorem shTrigger_fit {m : Nat} (x0 : Int) (x1 : ByteArray) (x2 : List ByteArray) (x3 : Bool) (x4 : Bool) (x5 : ByteArray) (x6 : ByteArray) : shTrigger.fit m (x0, x1, x2, x3, x4, x5, x6) ↔ 0 ≤ m ∧ x1.size ≤ m ∧ (Sh.row 9 shS).fit m x2 ∧ 0 ≤ m ∧ 0 ≤ m ∧ x5.size ≤ m ∧ x6.size ≤ m := Iff.rfl
theorem shTrigger_at {w : World} {lo hi : Nat} {A : Option Addr} {n c : Nat} {xs : List TyTrigger} {t : TypeId} (h : (Sh.row t shTrigger).R w lo hi [.slice A n c] xs) {j : Nat} (hj : j < n) :
  xs.length = n ∧ ∃ b off, A = some ⟨b, off, none⟩ ∧ lo ≤ b ∧ b < hi ∧ ∃ (A2 : Option Addr) (c2 : Nat), w.cell? ⟨b, off + j * 7, none⟩ = some (.int .i64 (xs.getD j shTrigger.d).1) ∧ w.cell? ⟨b, off + j * 7 + 1, none⟩ = some (.string (xs.getD j shTrigger.d).2.1) ∧ w.cell? ⟨b, off + j * 7 + 2, none⟩ = some (.slice A2 (xs.getD j shTrigger.d).2.2.1.length c2) ∧ w.cell? ⟨b, off + j * 7 + 3, none⟩ = some (.bool (xs.getD j shTrigger.d).2.2.2.1) ∧ w.cell? ⟨b, off + j * 7 + 4, none⟩ = some (.bool (xs.getD j shTrigger.d).2.2.2.2.1) ∧ w.cell? ⟨b, off + j * 7 + 5, none⟩ = some (.string (xs.getD j shTrigger.d).2.2.2.2.2.1) ∧ w.cell? ⟨b, off + j * 7 + 6, none⟩ = some (.string (xs.getD j shTrigger.d).2.2.2.2.2.2) ∧ shTrigger.R w lo hi [.int .i64 (xs.getD j shTrigger.d).1, .string (xs.getD j shTrigger.d).2.1, .slice A2 (xs.getD j shTrigger.d).2.2.1.length c2, .bool (xs.getD j shTrigger.d).2.2.2.1, .bool (xs.getD j shTrigger.d).2.2.2.2.1, .string (xs.getD j shTrigger.d).2.2.2.2.2.1, .string (xs.getD j shTrigger.d).2.2.2.2.2.2] (xs.getD j shTrigger.d) := by
 obtain ⟨A', c', e, h⟩ := h
 injection e with e _
 injection e with e1 e2 e3
 subst e1 e2
 obtain ⟨b, off, rfl, h1, h2, hc⟩ := h (by omega)
 obtain ⟨us, h3, h4⟩ := hc j hj
 have h5 := h4
 obtain ⟨A2, c2, rfl, _⟩ := shTrigger_R.1 h4
 exact ⟨rfl, b, off, rfl, h1, h2, A2, c2, h3 0 (by simp), h3 1 (by simp), h3 2 (by simp), h3 3 (by simp), h3 4 (by simp), h3 5 (by simp), h3 6 (by simp), h5⟩
abbrev TyLock := Int × Int × ByteArray × List ByteArray
def shLock : Sh TyLock := Sh.prod (shI) (Sh.prod (shI) (Sh.prod (shS) (Sh.row 9 shS)))
theorem shLock_R {w : World} {lo hi : Nat} {vs : List Value} {x0 : Int} {x1 : Int} {x2 : ByteArray} {x3 : List ByteArray} : shLock.R w lo hi vs (x0, x1, x2, x3) ↔ ∃ A3 c3, vs = [.int .i64 x0, .int .i64 x1, .string x2, .slice A3 x3.length c3] ∧ RowG shS w lo hi A3 x3 := by
 constructor
 ·rintro ⟨_, _, rfl, rfl, ⟨_, _, rfl, rfl, ⟨_, _, rfl, rfl, ⟨A3, c3, rfl, g3⟩⟩⟩⟩
  exact ⟨A3, c3, rfl, g3⟩
 ·rintro ⟨A3, c3, rfl, g3⟩
  exact ⟨[.int .i64 x0], [.int .i64 x1, .string x2, .slice A3 x3.length c3], rfl, rfl, ⟨[.int .i64 x1], [.string x2, .slice A3 x3.length c3], rfl, rfl, ⟨[.string x2], [.slice A3 x3.length c3], rfl, rfl, ⟨A3, c3, rfl, g3⟩⟩⟩⟩
theorem shLock_f3 {w : World} {lo hi : Nat} {x0 : Int} {x1 : Int} {x2 : ByteArray} {x3 : List ByteArray} {A3 : Option Addr} {c3 : Nat} (h : shLock.R w lo hi [.int .i64 x0, .int .i64 x1, .string x2, .slice A3 x3.length c3] (x0, x1, x2, x3)) : (Sh.row 9 shS).R w lo hi [.slice A3 x3.length c3] x3 := by
 obtain ⟨A3', c3', e, g3⟩ := shLock_R.1 h
 simp only [List.cons.injEq, Value.slice.injEq] at e
 simp only [true_and, and_true] at e
 obtain ⟨rfl, rfl⟩ := e
 exact ⟨_, _, rfl, g3⟩
theorem infoLock : (Tryz.prog.info? 231).map (fun i => (i.zero, i.size, i.bytes)) = some (some (.agg zz6), 4, 56) := by kernel_rfl
def zeroLock : Array Value := zz6
theorem shLock_cost (x0 : Int) (x1 : Int) (x2 : ByteArray) (x3 : List ByteArray) : shLock.cost (x0, x1, x2, x3) = 0 + (0 + (x2.size + ((Sh.row 9 shS).cost x3))) := rfl
theorem shLock_fit {m : Nat} (x0 : Int) (x1 : Int) (x2 : ByteArray) (x3 : List ByteArray) : shLock.fit m (x0, x1, x2, x3) ↔ 0 ≤ m ∧ 0 ≤ m ∧ x2.size ≤ m ∧ (Sh.row 9 shS).fit m x3 := Iff.rfl
theorem shLock_at {w : World} {lo hi : Nat} {A : Option Addr} {n c : Nat} {xs : List TyLock} {t : TypeId} (h : (Sh.row t shLock).R w lo hi [.slice A n c] xs) {j : Nat} (hj : j < n) :
  xs.length = n ∧ ∃ b off, A = some ⟨b, off, none⟩ ∧ lo ≤ b ∧ b < hi ∧ ∃ (A3 : Option Addr) (c3 : Nat), w.cell? ⟨b, off + j * 4, none⟩ = some (.int .i64 (xs.getD j shLock.d).1) ∧ w.cell? ⟨b, off + j * 4 + 1, none⟩ = some (.int .i64 (xs.getD j shLock.d).2.1) ∧ w.cell? ⟨b, off + j * 4 + 2, none⟩ = some (.string (xs.getD j shLock.d).2.2.1) ∧ w.cell? ⟨b, off + j * 4 + 3, none⟩ = some (.slice A3 (xs.getD j shLock.d).2.2.2.length c3) ∧ shLock.R w lo hi [.int .i64 (xs.getD j shLock.d).1, .int .i64 (xs.getD j shLock.d).2.1, .string (xs.getD j shLock.d).2.2.1, .slice A3 (xs.getD j shLock.d).2.2.2.length c3] (xs.getD j shLock.d) := by
 obtain ⟨A', c', e, h⟩ := h
 injection e with e _
 injection e with e1 e2 e3
 subst e1 e2
 obtain ⟨b, off, rfl, h1, h2, hc⟩ := h (by omega)
 obtain ⟨us, h3, h4⟩ := hc j hj
 have h5 := h4
 obtain ⟨A3, c3, rfl, _⟩ := shLock_R.1 h4
 exact ⟨rfl, b, off, rfl, h1, h2, A3, c3, h3 0 (by simp), h3 1 (by simp), h3 2 (by simp), h3 3 (by simp), h5⟩
abbrev TyAsk := Int × Int × ByteArray × List ByteArray
def shAsk : Sh TyAsk := Sh.prod (shI) (Sh.prod (shI) (Sh.prod (shS) (Sh.row 9 shS)))
theorem shAsk_R {w : World} {lo hi : Nat} {vs : List Value} {x0 : Int} {x1 : Int} {x2 : ByteArray} {x3 : List ByteArray} : shAsk.R w lo hi vs (x0, x1, x2, x3) ↔ ∃ A3 c3, vs = [.int .i64 x0, .int .i64 x1, .string x2, .slice A3 x3.length c3] ∧ RowG shS w lo hi A3 x3 := by
 constructor
 ·rintro ⟨_, _, rfl, rfl, ⟨_, _, rfl, rfl, ⟨_, _, rfl, rfl, ⟨A3, c3, rfl, g3⟩⟩⟩⟩
  exact ⟨A3, c3, rfl, g3⟩
 ·rintro ⟨A3, c3, rfl, g3⟩
  exact ⟨[.int .i64 x0], [.int .i64 x1, .string x2, .slice A3 x3.length c3], rfl, rfl, ⟨[.int .i64 x1], [.string x2, .slice A3 x3.length c3], rfl, rfl, ⟨[.string x2], [.slice A3 x3.length c3], rfl, rfl, ⟨A3, c3, rfl, g3⟩⟩⟩⟩
theorem shAsk_f3 {w : World} {lo hi : Nat} {x0 : Int} {x1 : Int} {x2 : ByteArray} {x3 : List ByteArray} {A3 : Option Addr} {c3 : Nat} (h : shAsk.R w lo hi [.int .i64 x0, .int .i64 x1, .string x2, .slice A3 x3.length c3] (x0, x1, x2, x3)) : (Sh.row 9 shS).R w lo hi [.slice A3 x3.length c3] x3 := by
 obtain ⟨A3', c3', e, g3⟩ := shAsk_R.1 h
 simp only [List.cons.injEq, Value.slice.injEq] at e
 simp only [true_and, and_true] at e
 obtain ⟨rfl, rfl⟩ := e
 exact ⟨_, _, rfl, g3⟩
theorem infoAsk : (Tryz.prog.info? 233).map (fun i => (i.zero, i.size, i.bytes)) = some (some (.agg zz6), 4, 56) := by kernel_rfl
def zeroAsk : Array Value := zz6
theorem shAsk_cost (x0 : Int) (x1 : Int) (x2 : ByteArray) (x3 : List ByteArray) : shAsk.cost (x0, x1, x2, x3) = 0 + (0 + (x2.size + ((Sh.row 9 shS).cost x3))) := rfl
theorem shAsk_fit {m : Nat} (x0 : Int) (x1 : Int) (x2 : ByteArray) (x3 : List ByteArray) : shAsk.fit m (x0, x1, x2, x3) ↔ 0 ≤ m ∧ 0 ≤ m ∧ x2.size ≤ m ∧ (Sh.row 9 shS).fit m x3 := Iff.rfl
theorem shAsk_at {w : World} {lo hi : Nat} {A : Option Addr} {n c : Nat} {xs : List TyAsk} {t : TypeId} (h : (Sh.row t shAsk).R w lo hi [.slice A n c] xs) {j : Nat} (hj : j < n) :
  xs.length = n ∧ ∃ b off, A = some ⟨b, off, none⟩ ∧ lo ≤ b ∧ b < hi ∧ ∃ (A3 : Option Addr) (c3 : Nat), w.cell? ⟨b, off + j * 4, none⟩ = some (.int .i64 (xs.getD j shAsk.d).1) ∧ w.cell? ⟨b, off + j * 4 + 1, none⟩ = some (.int .i64 (xs.getD j shAsk.d).2.1) ∧ w.cell? ⟨b, off + j * 4 + 2, none⟩ = some (.string (xs.getD j shAsk.d).2.2.1) ∧ w.cell? ⟨b, off + j * 4 + 3, none⟩ = some (.slice A3 (xs.getD j shAsk.d).2.2.2.length c3) ∧ shAsk.R w lo hi [.int .i64 (xs.getD j shAsk.d).1, .int .i64 (xs.getD j shAsk.d).2.1, .string (xs.getD j shAsk.d).2.2.1, .slice A3 (xs.getD j shAsk.d).2.2.2.length c3] (xs.getD j shAsk.d) := by
 obtain ⟨A', c', e, h⟩ := h
 injection e with e _
 injection e with e1 e2 e3
 subst e1 e2
 obtain ⟨b, off, rfl, h1, h2, hc⟩ := h (by omega)
 obtain ⟨us, h3, h4⟩ := hc j hj
 have h5 := h4
 obtain ⟨A3, c3, rfl, _⟩ := shAsk_R.1 h4
 exact ⟨rfl, b, off, rfl, h1, h2, A3, c3, h3 0 (by simp), h3 1 (by simp), h3 2 (by simp), h3 3 (by simp), h5⟩
abbrev TyLocks := List TyLock × List TyAsk
def shLocks : Sh TyLocks := Sh.prod (Sh.row 231 shLock) (Sh.row 233 shAsk)
theorem shLocks_R {w : World} {lo hi : Nat} {vs : List Value} {x0 : List TyLock} {x1 : List TyAsk} : shLocks.R w lo hi vs (x0, x1) ↔ ∃ A0 c0, ∃ A1 c1, vs = [.slice A0 x0.length c0, .slice A1 x1.length c1] ∧ RowG shLock w lo hi A0 x0 ∧ RowG shAsk w lo hi A1 x1 := by
 constructor
 ·rintro ⟨_, _, rfl, ⟨A0, c0, rfl, g0⟩, ⟨A1, c1, rfl, g1⟩⟩
  exact ⟨A0, c0, A1, c1, rfl, g0, g1⟩
 ·rintro ⟨A0, c0, A1, c1, rfl, g0, g1⟩
  exact ⟨[.slice A0 x0.length c0], [.slice A1 x1.length c1], rfl, ⟨A0, c0, rfl, g0⟩, ⟨A1, c1, rfl, g1⟩⟩
theorem shLocks_f0 {w : World} {lo hi : Nat} {x0 : List TyLock} {x1 : List TyAsk} {A0 : Option Addr} {c0 : Nat} {A1 : Option Addr} {c1 : Nat} (h : shLocks.R w lo hi [.slice A0 x0.length c0, .slice A1 x1.length c1] (x0, x1)) : (Sh.row 231 shLock).R w lo hi [.slice A0 x0.length c0] x0 := by
 obtain ⟨A0', c0', A1', c1', e, g0, g1⟩ := shLocks_R.1 h
 simp only [List.cons.injEq, Value.slice.injEq] at e
 simp only [true_and, and_true] at e
 obtain ⟨⟨rfl, rfl⟩, ⟨rfl, rfl⟩⟩ := e
 exact ⟨_, _, rfl, g0⟩
theorem shLocks_f1 {w : World} {lo hi : Nat} {x0 : List TyLock} {x1 : List TyAsk} {A0 : Option Addr} {c0 : Nat} {A1 : Option Addr} {c1 : Nat} (h : shLocks.R w lo hi [.slice A0 x0.length c0, .slice A1 x1.length c1] (x0, x1)) : (Sh.row 233 shAsk).R w lo hi [.slice A1 x1.length c1] x1 := by
 obtain ⟨A0', c0', A1', c1', e, g0, g1⟩ := shLocks_R.1 h
 simp only [List.cons.injEq, Value.slice.injEq] at e
 simp only [true_and, and_true] at e
 obtain ⟨⟨rfl, rfl⟩, ⟨rfl, rfl⟩⟩ := e
 exact ⟨_, _, rfl, g1⟩
theorem shLocks_cost (x0 : List TyLock) (x1 : List TyAsk) : shLocks.cost (x0, x1) = (Sh.row 231 shLock).cost x0 + ((Sh.row 233 shAsk).cost x1) := rfl
theorem shLocks_fit {m : Nat} (x0 : List TyLock) (x1 : List TyAsk) : shLocks.fit m (x0, x1) ↔ (Sh.row 231 shLock).fit m x0 ∧ (Sh.row 233 shAsk).fit m x1 := Iff.rfl
abbrev TyEvent := Int × ByteArray × List ByteArray × ByteArray × Int
def shEvent : Sh TyEvent := Sh.prod (shI) (Sh.prod (shS) (Sh.prod (Sh.row 9 shS) (Sh.prod (shS) (shI))))
theorem shEvent_R {w : World} {lo hi : Nat} {vs : List Value} {x0 : Int} {x1 : ByteArray} {x2 : List ByteArray} {x3 : ByteArray} {x4 : Int} : shEvent.R w lo hi vs (x0, x1, x2, x3, x4) ↔ ∃ A2 c2, vs = [.int .i64 x0, .string x1, .slice A2 x2.length c2, .string x3, .int .i64 x4] ∧ RowG shS w lo hi A2 x2 := by
 constructor
 ·rintro ⟨_, _, rfl, rfl, ⟨_, _, rfl, rfl, ⟨_, _, rfl, ⟨A2, c2, rfl, g2⟩, ⟨_, _, rfl, rfl, rfl⟩⟩⟩⟩
  exact ⟨A2, c2, rfl, g2⟩
 ·rintro ⟨A2, c2, rfl, g2⟩
  exact ⟨[.int .i64 x0], [.string x1, .slice A2 x2.length c2, .string x3, .int .i64 x4], rfl, rfl, ⟨[.string x1], [.slice A2 x2.length c2, .string x3, .int .i64 x4], rfl, rfl, ⟨[.slice A2 x2.length c2], [.string x3, .int .i64 x4], rfl, ⟨A2, c2, rfl, g2⟩, ⟨[.string x3], [.int .i64 x4], rfl, rfl, rfl⟩⟩⟩⟩
theorem shEvent_f2 {w : World} {lo hi : Nat} {x0 : Int} {x1 : ByteArray} {x2 : List ByteArray} {x3 : ByteArray} {x4 : Int} {A2 : Option Addr} {c2 : Nat} (h : shEvent.R w lo hi [.int .i64 x0, .string x1, .slice A2 x2.length c2, .string x3, .int .i64 x4] (x0, x1, x2, x3, x4)) : (Sh.row 9 shS).R w lo hi [.slice A2 x2.length c2] x2 := by
 obtain ⟨A2', c2', e, g2⟩ := shEvent_R.1 h
 simp only [List.cons.injEq, Value.slice.injEq] at e
 simp only [true_and, and_true] at e
 obtain ⟨rfl, rfl⟩ := e
 exact ⟨_, _, rfl, g2⟩
theorem infoEvent : (Tryz.prog.info? 247).map (fun i => (i.zero, i.size, i.bytes)) = some (some (.agg zz7), 5, 72) := by kernel_rfl
def zeroEvent : Array Value := zz7
theorem shEvent_cost (x0 : Int) (x1 : ByteArray) (x2 : List ByteArray) (x3 : ByteArray) (x4 : Int) : shEvent.cost (x0, x1, x2, x3, x4) = 0 + (x1.size + ((Sh.row 9 shS).cost x2 + (x3.size + (0)))) := rfl
theorem shEvent_fit {m : Nat} (x0 : Int) (x1 : ByteArray) (x2 : List ByteArray) (x3 : ByteArray) (x4 : Int) : shEvent.fit m (x0, x1, x2, x3, x4) ↔ 0 ≤ m ∧ x1.size ≤ m ∧ (Sh.row 9 shS).fit m x2 ∧ x3.size ≤ m ∧ 0 ≤ m := Iff.rfl
theorem shEvent_at {w : World} {lo hi : Nat} {A : Option Addr} {n c : Nat} {xs : List TyEvent} {t : TypeId} (h : (Sh.row t shEvent).R w lo hi [.slice A n c] xs) {j : Nat} (hj : j < n) :
  xs.length = n ∧ ∃ b off, A = some ⟨b, off, none⟩ ∧ lo ≤ b ∧ b < hi ∧ ∃ (A2 : Option Addr) (c2 : Nat), w.cell? ⟨b, off + j * 5, none⟩ = some (.int .i64 (xs.getD j shEvent.d).1) ∧ w.cell? ⟨b, off + j * 5 + 1, none⟩ = some (.string (xs.getD j shEvent.d).2.1) ∧ w.cell? ⟨b, off + j * 5 + 2, none⟩ = some (.slice A2 (xs.getD j shEvent.d).2.2.1.length c2) ∧ w.cell? ⟨b, off + j * 5 + 3, none⟩ = some (.string (xs.getD j shEvent.d).2.2.2.1) ∧ w.cell? ⟨b, off + j * 5 + 4, none⟩ = some (.int .i64 (xs.getD j shEvent.d).2.2.2.2) ∧ shEvent.R w lo hi [.int .i64 (xs.getD j shEvent.d).1, .string (xs.getD j shEvent.d).2.1, .slice A2 (xs.getD j shEvent.d).2.2.1.length c2, .string (xs.getD j shEvent.d).2.2.2.1, .int .i64 (xs.getD j shEvent.d).2.2.2.2] (xs.getD j shEvent.d) := by
 obtain ⟨A', c', e, h⟩ := h
 injection e with e _
 injection e with e1 e2 e3
 subst e1 e2
 obtain ⟨b, off, rfl, h1, h2, hc⟩ := h (by omega)
 obtain ⟨us, h3, h4⟩ := hc j hj
 have h5 := h4
 obtain ⟨A2, c2, rfl, _⟩ := shEvent_R.1 h4
 exact ⟨rfl, b, off, rfl, h1, h2, A2, c2, h3 0 (by simp), h3 1 (by simp), h3 2 (by simp), h3 3 (by simp), h3 4 (by simp), h5⟩
abbrev TyTrans := Int × Int × List TyEvent
def shTrans : Sh TyTrans := Sh.prod (shI) (Sh.prod (shI) (Sh.row 247 shEvent))
theorem shTrans_R {w : World} {lo hi : Nat} {vs : List Value} {x0 : Int} {x1 : Int} {x2 : List TyEvent} : shTrans.R w lo hi vs (x0, x1, x2) ↔ ∃ A2 c2, vs = [.int .i64 x0, .int .i64 x1, .slice A2 x2.length c2] ∧ RowG shEvent w lo hi A2 x2 := by
 constructor
 ·rintro ⟨_, _, rfl, rfl, ⟨_, _, rfl, rfl, ⟨A2, c2, rfl, g2⟩⟩⟩
  exact ⟨A2, c2, rfl, g2⟩
 ·rintro ⟨A2, c2, rfl, g2⟩
  exact ⟨[.int .i64 x0], [.int .i64 x1, .slice A2 x2.length c2], rfl, rfl, ⟨[.int .i64 x1], [.slice A2 x2.length c2], rfl, rfl, ⟨A2, c2, rfl, g2⟩⟩⟩
theorem shTrans_f2 {w : World} {lo hi : Nat} {x0 : Int} {x1 : Int} {x2 : List TyEvent} {A2 : Option Addr} {c2 : Nat} (h : shTrans.R w lo hi [.int .i64 x0, .int .i64 x1, .slice A2 x2.length c2] (x0, x1, x2)) : (Sh.row 247 shEvent).R w lo hi [.slice A2 x2.length c2] x2 := by
 obtain ⟨A2', c2', e, g2⟩ := shTrans_R.1 h
 simp only [List.cons.injEq, Value.slice.injEq] at e
 simp only [true_and, and_true] at e
 obtain ⟨rfl, rfl⟩ := e
 exact ⟨_, _, rfl, g2⟩
theorem shTrans_cost (x0 : Int) (x1 : Int) (x2 : List TyEvent) : shTrans.cost (x0, x1, x2) = 0 + (0 + ((Sh.row 247 shEvent).cost x2)) := rfl
theorem shTrans_fit {m : Nat} (x0 : Int) (x1 : Int) (x2 : List TyEvent) : shTrans.fit m (x0, x1, x2) ↔ 0 ≤ m ∧ 0 ≤ m ∧ (Sh.row 247 shEvent).fit m x2 := Iff.rfl
abbrev TyBatch := Int × List TyEvent
def shBatch : Sh TyBatch := Sh.prod (shI) (Sh.row 247 shEvent)
theorem shBatch_R {w : World} {lo hi : Nat} {vs : List Value} {x0 : Int} {x1 : List TyEvent} : shBatch.R w lo hi vs (x0, x1) ↔ ∃ A1 c1, vs = [.int .i64 x0, .slice A1 x1.length c1] ∧ RowG shEvent w lo hi A1 x1 := by
 constructor
 ·rintro ⟨_, _, rfl, rfl, ⟨A1, c1, rfl, g1⟩⟩
  exact ⟨A1, c1, rfl, g1⟩
 ·rintro ⟨A1, c1, rfl, g1⟩
  exact ⟨[.int .i64 x0], [.slice A1 x1.length c1], rfl, rfl, ⟨A1, c1, rfl, g1⟩⟩
theorem shBatch_f1 {w : World} {lo hi : Nat} {x0 : Int} {x1 : List TyEvent} {A1 : Option Addr} {c1 : Nat} (h : shBatch.R w lo hi [.int .i64 x0, .slice A1 x1.length c1] (x0, x1)) : (Sh.row 247 shEvent).R w lo hi [.slice A1 x1.length c1] x1 := by
 obtain ⟨A1', c1', e, g1⟩ := shBatch_R.1 h
 simp only [List.cons.injEq, Value.slice.injEq] at e
 simp only [true_and, and_true] at e
 obtain ⟨rfl, rfl⟩ := e
 exact ⟨_, _, rfl, g1⟩
theorem infoBatch : (Tryz.prog.info? 167).map (fun i => (i.zero, i.size, i.bytes)) = some (some (.agg #[.int .i64 0, .slice none 0 0]), 2, 32) := by kernel_rfl
def zeroBatch : Array Value := #[.int .i64 0, .slice none 0 0]
theorem shBatch_cost (x0 : Int) (x1 : List TyEvent) : shBatch.cost (x0, x1) = 0 + ((Sh.row 247 shEvent).cost x1) := rfl
theorem shBatch_fit {m : Nat} (x0 : Int) (x1 : List TyEvent) : shBatch.fit m (x0, x1) ↔ 0 ≤ m ∧ (Sh.row 247 shEvent).fit m x1 := Iff.rfl
theorem shBatch_at {w : World} {lo hi : Nat} {A : Option Addr} {n c : Nat} {xs : List TyBatch} {t : TypeId} (h : (Sh.row t shBatch).R w lo hi [.slice A n c] xs) {j : Nat} (hj : j < n) :
  xs.length = n ∧ ∃ b off, A = some ⟨b, off, none⟩ ∧ lo ≤ b ∧ b < hi ∧ ∃ (A1 : Option Addr) (c1 : Nat), w.cell? ⟨b, off + j * 2, none⟩ = some (.int .i64 (xs.getD j shBatch.d).1) ∧ w.cell? ⟨b, off + j * 2 + 1, none⟩ = some (.slice A1 (xs.getD j shBatch.d).2.length c1) ∧ shBatch.R w lo hi [.int .i64 (xs.getD j shBatch.d).1, .slice A1 (xs.getD j shBatch.d).2.length c1] (xs.getD j shBatch.d) := by
 obtain ⟨A', c', e, h⟩ := h
 injection e with e _
 injection e with e1 e2 e3
 subst e1 e2
 obtain ⟨b, off, rfl, h1, h2, hc⟩ := h (by omega)
 obtain ⟨us, h3, h4⟩ := hc j hj
 have h5 := h4
 obtain ⟨A1, c1, rfl, _⟩ := shBatch_R.1 h4
 exact ⟨rfl, b, off, rfl, h1, h2, A1, c1, h3 0 (by simp), h3 1 (by simp), h5⟩
abbrev TyPut := Int × ByteArray
def shPut : Sh TyPut := Sh.prod (shI) (shS)
theorem shPut_R {w : World} {lo hi : Nat} {vs : List Value} {x0 : Int} {x1 : ByteArray} : shPut.R w lo hi vs (x0, x1) ↔ vs = [.int .i64 x0, .string x1] := by
 constructor
 ·rintro ⟨_, _, rfl, rfl, rfl⟩
  exact rfl
 ·rintro rfl
  exact ⟨[.int .i64 x0], [.string x1], rfl, rfl, rfl⟩
theorem infoPut : (Tryz.prog.info? 306).map (fun i => (i.zero, i.size, i.bytes)) = some (some (.agg #[.int .i64 0, .string ⟨#[]⟩]), 2, 24) := by kernel_rfl
def zeroPut : Array Value := #[.int .i64 0, .string ⟨#[]⟩]
theorem shPut_cost (x0 : Int) (x1 : ByteArray) : shPut.cost (x0, x1) = 0 + (x1.size) := rfl
theorem shPut_fit {m : Nat} (x0 : Int) (x1 : ByteArray) : shPut.fit m (x0, x1) ↔ 0 ≤ m ∧ x1.size ≤ m := Iff.rfl
theorem shPut_at {w : World} {lo hi : Nat} {A : Option Addr} {n c : Nat} {xs : List TyPut} {t : TypeId} (h : (Sh.row t shPut).R w lo hi [.slice A n c] xs) {j : Nat} (hj : j < n) :
  xs.length = n ∧ ∃ b off, A = some ⟨b, off, none⟩ ∧ lo ≤ b ∧ b < hi ∧ w.cell? ⟨b, off + j * 2, none⟩ = some (.int .i64 (xs.getD j shPut.d).1) ∧ w.cell? ⟨b, off + j * 2 + 1, none⟩ = some (.string (xs.getD j shPut.d).2) ∧ shPut.R w lo hi [.int .i64 (xs.getD j shPut.d).1, .string (xs.getD j shPut.d).2] (xs.getD j shPut.d) := by
 obtain ⟨A', c', e, h⟩ := h
 injection e with e _
 injection e with e1 e2 e3
 subst e1 e2
 obtain ⟨b, off, rfl, h1, h2, hc⟩ := h (by omega)
 obtain ⟨us, h3, h4⟩ := hc j hj
 have h5 := h4
 obtain rfl := shPut_R.1 h4
 exact ⟨rfl, b, off, rfl, h1, h2, h3 0 (by simp), h3 1 (by simp), h5⟩
abbrev TyDisk := Int × List ByteArray × List TyPut
def shDisk : Sh TyDisk := Sh.prod (shI) (Sh.prod (Sh.row 9 shS) (Sh.row 306 shPut))
theorem shDisk_R {w : World} {lo hi : Nat} {vs : List Value} {x0 : Int} {x1 : List ByteArray} {x2 : List TyPut} : shDisk.R w lo hi vs (x0, x1, x2) ↔ ∃ A1 c1, ∃ A2 c2, vs = [.int .i64 x0, .slice A1 x1.length c1, .slice A2 x2.length c2] ∧ RowG shS w lo hi A1 x1 ∧ RowG shPut w lo hi A2 x2 := by
 constructor
 ·rintro ⟨_, _, rfl, rfl, ⟨_, _, rfl, ⟨A1, c1, rfl, g1⟩, ⟨A2, c2, rfl, g2⟩⟩⟩
  exact ⟨A1, c1, A2, c2, rfl, g1, g2⟩
 ·rintro ⟨A1, c1, A2, c2, rfl, g1, g2⟩
  exact ⟨[.int .i64 x0], [.slice A1 x1.length c1, .slice A2 x2.length c2], rfl, rfl, ⟨[.slice A1 x1.length c1], [.slice A2 x2.length c2], rfl, ⟨A1, c1, rfl, g1⟩, ⟨A2, c2, rfl, g2⟩⟩⟩
theorem shDisk_f1 {w : World} {lo hi : Nat} {x0 : Int} {x1 : List ByteArray} {x2 : List TyPut} {A1 : Option Addr} {c1 : Nat} {A2 : Option Addr} {c2 : Nat} (h : shDisk.R w lo hi [.int .i64 x0, .slice A1 x1.length c1, .slice A2 x2.length c2] (x0, x1, x2)) : (Sh.row 9 shS).R w lo hi [.slice A1 x1.length c1] x1 := by
 obtain ⟨A1', c1', A2', c2', e, g1, g2⟩ := shDisk_R.1 h
 simp only [List.cons.injEq, Value.slice.injEq] at e
 simp only [true_and, and_true] at e
 obtain ⟨⟨rfl, rfl⟩, ⟨rfl, rfl⟩⟩ := e
 exact ⟨_, _, rfl, g1⟩
theorem shDisk_f2 {w : World} {lo hi : Nat} {x0 : Int} {x1 : List ByteArray} {x2 : List TyPut} {A1 : Option Addr} {c1 : Nat} {A2 : Option Addr} {c2 : Nat} (h : shDisk.R w lo hi [.int .i64 x0, .slice A1 x1.length c1, .slice A2 x2.length c2] (x0, x1, x2)) : (Sh.row 306 shPut).R w lo hi [.slice A2 x2.length c2] x2 := by
 obtain ⟨A1', c1', A2', c2', e, g1, g2⟩ := shDisk_R.1 h
 simp only [List.cons.injEq, Value.slice.injEq] at e
 simp only [true_and, and_true] at e
 obtain ⟨⟨rfl, rfl⟩, ⟨rfl, rfl⟩⟩ := e
 exact ⟨_, _, rfl, g2⟩
theorem shDisk_cost (x0 : Int) (x1 : List ByteArray) (x2 : List TyPut) : shDisk.cost (x0, x1, x2) = 0 + ((Sh.row 9 shS).cost x1 + ((Sh.row 306 shPut).cost x2)) := rfl
theorem shDisk_fit {m : Nat} (x0 : Int) (x1 : List ByteArray) (x2 : List TyPut) : shDisk.fit m (x0, x1, x2) ↔ 0 ≤ m ∧ (Sh.row 9 shS).fit m x1 ∧ (Sh.row 306 shPut).fit m x2 := Iff.rfl
abbrev TySeat := Int × Int
def shSeat : Sh TySeat := Sh.prod (shI) (shI)
theorem shSeat_R {w : World} {lo hi : Nat} {vs : List Value} {x0 : Int} {x1 : Int} : shSeat.R w lo hi vs (x0, x1) ↔ vs = [.int .i64 x0, .int .i64 x1] := by
 constructor
 ·rintro ⟨_, _, rfl, rfl, rfl⟩
  exact rfl
 ·rintro rfl
  exact ⟨[.int .i64 x0], [.int .i64 x1], rfl, rfl, rfl⟩
theorem infoSeat : (Tryz.prog.info? 273).map (fun i => (i.zero, i.size, i.bytes)) = some (some (.agg #[.int .i64 0, .int .i64 0]), 2, 16) := by kernel_rfl
def zeroSeat : Array Value := #[.int .i64 0, .int .i64 0]
theorem shSeat_cost (x0 : Int) (x1 : Int) : shSeat.cost (x0, x1) = 0 + (0) := rfl
theorem shSeat_fit {m : Nat} (x0 : Int) (x1 : Int) : shSeat.fit m (x0, x1) ↔ 0 ≤ m ∧ 0 ≤ m := Iff.rfl
theorem shSeat_at {w : World} {lo hi : Nat} {A : Option Addr} {n c : Nat} {xs : List TySeat} {t : TypeId} (h : (Sh.row t shSeat).R w lo hi [.slice A n c] xs) {j : Nat} (hj : j < n) :
  xs.length = n ∧ ∃ b off, A = some ⟨b, off, none⟩ ∧ lo ≤ b ∧ b < hi ∧ w.cell? ⟨b, off + j * 2, none⟩ = some (.int .i64 (xs.getD j shSeat.d).1) ∧ w.cell? ⟨b, off + j * 2 + 1, none⟩ = some (.int .i64 (xs.getD j shSeat.d).2) ∧ shSeat.R w lo hi [.int .i64 (xs.getD j shSeat.d).1, .int .i64 (xs.getD j shSeat.d).2] (xs.getD j shSeat.d) := by
 obtain ⟨A', c', e, h⟩ := h
 injection e with e _
 injection e with e1 e2 e3
 subst e1 e2
 obtain ⟨b, off, rfl, h1, h2, hc⟩ := h (by omega)
 obtain ⟨us, h3, h4⟩ := hc j hj
 have h5 := h4
 obtain rfl := shSeat_R.1 h4
 exact ⟨rfl, b, off, rfl, h1, h2, h3 0 (by simp), h3 1 (by simp), h5⟩
abbrev TyTop := Int × Int × Int × List TySeat
def shTop : Sh TyTop := Sh.prod (shI) (Sh.prod (shI) (Sh.prod (shI) (Sh.row 273 shSeat)))
theorem shTop_R {w : World} {lo hi : Nat} {vs : List Value} {x0 : Int} {x1 : Int} {x2 : Int} {x3 : List TySeat} : shTop.R w lo hi vs (x0, x1, x2, x3) ↔ ∃ A3 c3, vs = [.int .i64 x0, .int .i64 x1, .int .i64 x2, .slice A3 x3.length c3] ∧ RowG shSeat w lo hi A3 x3 := by
 constructor
 ·rintro ⟨_, _, rfl, rfl, ⟨_, _, rfl, rfl, ⟨_, _, rfl, rfl, ⟨A3, c3, rfl, g3⟩⟩⟩⟩
  exact ⟨A3, c3, rfl, g3⟩
 ·rintro ⟨A3, c3, rfl, g3⟩
  exact ⟨[.int .i64 x0], [.int .i64 x1, .int .i64 x2, .slice A3 x3.length c3], rfl, rfl, ⟨[.int .i64 x1], [.int .i64 x2, .slice A3 x3.length c3], rfl, rfl, ⟨[.int .i64 x2], [.slice A3 x3.length c3], rfl, rfl, ⟨A3, c3, rfl, g3⟩⟩⟩⟩
theorem shTop_f3 {w : World} {lo hi : Nat} {x0 : Int} {x1 : Int} {x2 : Int} {x3 : List TySeat} {A3 : Option Addr} {c3 : Nat} (h : shTop.R w lo hi [.int .i64 x0, .int .i64 x1, .int .i64 x2, .slice A3 x3.length c3] (x0, x1, x2, x3)) : (Sh.row 273 shSeat).R w lo hi [.slice A3 x3.length c3] x3 := by
 obtain ⟨A3', c3', e, g3⟩ := shTop_R.1 h
 simp only [List.cons.injEq, Value.slice.injEq] at e
 simp only [true_and, and_true] at e
 obtain ⟨rfl, rfl⟩ := e
 exact ⟨_, _, rfl, g3⟩
theorem shTop_cost (x0 : Int) (x1 : Int) (x2 : Int) (x3 : List TySeat) : shTop.cost (x0, x1, x2, x3) = 0 + (0 + (0 + ((Sh.row 273 shSeat).cost x3))) := rfl
theorem shTop_fit {m : Nat} (x0 : Int) (x1 : Int) (x2 : Int) (x3 : List TySeat) : shTop.fit m (x0, x1, x2, x3) ↔ 0 ≤ m ∧ 0 ≤ m ∧ 0 ≤ m ∧ (Sh.row 273 shSeat).fit m x3 := Iff.rfl
abbrev TyCache := TyDisk × TyTop × TyTop × List TySeat × List Int
def shCache : Sh TyCache := Sh.prod (shDisk) (Sh.prod (shTop) (Sh.prod (shTop) (Sh.prod (Sh.row 273 shSeat) (Sh.row 2 shI))))
theorem shCache_R {w : World} {lo hi : Nat} {vs : List Value} {x0 : Int} {x1 : List ByteArray} {x2 : List TyPut} {x3 : Int} {x4 : Int} {x5 : Int} {x6 : List TySeat} {x7 : Int} {x8 : Int} {x9 : Int} {x10 : List TySeat} {x11 : List TySeat} {x12 : List Int} : shCache.R w lo hi vs ((x0, x1, x2), (x3, x4, x5, x6), (x7, x8, x9, x10), x11, x12) ↔ ∃ A1 c1, ∃ A2 c2, ∃ A6 c6, ∃ A10 c10, ∃ A11 c11, ∃ A12 c12, vs = [.int .i64 x0, .slice A1 x1.length c1, .slice A2 x2.length c2, .int .i64 x3, .int .i64 x4, .int .i64 x5, .slice A6 x6.length c6, .int .i64 x7, .int .i64 x8, .int .i64 x9, .slice A10 x10.length c10, .slice A11 x11.length c11, .slice A12 x12.length c12] ∧ RowG shS w lo hi A1 x1 ∧ RowG shPut w lo hi A2 x2 ∧ RowG shSeat w lo hi A6 x6 ∧ RowG shSeat w lo hi A10 x10 ∧ RowG shSeat w lo hi A11 x11 ∧ RowG shI w lo hi A12 x12 := by
 constructor
 ·rintro ⟨_, _, rfl, ⟨_, _, rfl, rfl, ⟨_, _, rfl, ⟨A1, c1, rfl, g1⟩, ⟨A2, c2, rfl, g2⟩⟩⟩, ⟨_, _, rfl, ⟨_, _, rfl, rfl, ⟨_, _, rfl, rfl, ⟨_, _, rfl, rfl, ⟨A6, c6, rfl, g6⟩⟩⟩⟩, ⟨_, _, rfl, ⟨_, _, rfl, rfl, ⟨_, _, rfl, rfl, ⟨_, _, rfl, rfl, ⟨A10, c10, rfl, g10⟩⟩⟩⟩, ⟨_, _, rfl, ⟨A11, c11, rfl, g11⟩, ⟨A12, c12, rfl, g12⟩⟩⟩⟩⟩
  exact ⟨A1, c1, A2, c2, A6, c6, A10, c10, A11, c11, A12, c12, rfl, g1, g2, g6, g10, g11, g12⟩
 ·rintro ⟨A1, c1, A2, c2, A6, c6, A10, c10, A11, c11, A12, c12, rfl, g1, g2, g6, g10, g11, g12⟩
  exact ⟨[.int .i64 x0, .slice A1 x1.length c1, .slice A2 x2.length c2], [.int .i64 x3, .int .i64 x4, .int .i64 x5, .slice A6 x6.length c6, .int .i64 x7, .int .i64 x8, .int .i64 x9, .slice A10 x10.length c10, .slice A11 x11.length c11, .slice A12 x12.length c12], rfl, ⟨[.int .i64 x0], [.slice A1 x1.length c1, .slice A2 x2.length c2], rfl, rfl, ⟨[.slice A1 x1.length c1], [.slice A2 x2.length c2], rfl, ⟨A1, c1, rfl, g1⟩, ⟨A2, c2, rfl, g2⟩⟩⟩, ⟨[.int .i64 x3, .int .i64 x4, .int .i64 x5, .slice A6 x6.length c6], [.int .i64 x7, .int .i64 x8, .int .i64 x9, .slice A10 x10.length c10, .slice A11 x11.length c11, .slice A12 x12.length c12], rfl, ⟨[.int .i64 x3], [.int .i64 x4, .int .i64 x5, .slice A6 x6.length c6], rfl, rfl, ⟨[.int .i64 x4], [.int .i64 x5, .slice A6 x6.length c6], rfl, rfl, ⟨[.int .i64 x5], [.slice A6 x6.length c6], rfl, rfl, ⟨A6, c6, rfl, g6⟩⟩⟩⟩, ⟨[.int .i64 x7, .int .i64 x8, .int .i64 x9, .slice A10 x10.length c10], [.slice A11 x11.length c11, .slice A12 x12.length c12], rfl, ⟨[.int .i64 x7], [.int .i64 x8, .int .i64 x9, .slice A10 x10.length c10], rfl, rfl, ⟨[.int .i64 x8], [.int .i64 x9, .slice A10 x10.length c10], rfl, rfl, ⟨[.int .i64 x9], [.slice A10 x10.length c10], rfl, rfl, ⟨A10, c10, rfl, g10⟩⟩⟩⟩, ⟨[.slice A11 x11.length c11], [.slice A12 x12.length c12], rfl, ⟨A11, c11, rfl, g11⟩, ⟨A12, c12, rfl, g12⟩⟩⟩⟩⟩
theorem shCache_f0 {w : World} {lo hi : Nat} {x0 : Int} {x1 : List ByteArray} {x2 : List TyPut} {x3 : Int} {x4 : Int} {x5 : Int} {x6 : List TySeat} {x7 : Int} {x8 : Int} {x9 : Int} {x10 : List TySeat} {x11 : List TySeat} {x12 : List Int} {A1 : Option Addr} {c1 : Nat} {A2 : Option Addr} {c2 : Nat} {A6 : Option Addr} {c6 : Nat} {A10 : Option Addr} {c10 : Nat} {A11 : Option Addr} {c11 : Nat} {A12 : Option Addr} {c12 : Nat} (h : shCache.R w lo hi [.int .i64 x0, .slice A1 x1.length c1, .slice A2 x2.length c2, .int .i64 x3, .int .i64 x4, .int .i64 x5, .slice A6 x6.length c6, .int .i64 x7, .int .i64 x8, .int .i64 x9, .slice A10 x10.length c10, .slice A11 x11.length c11, .slice A12 x12.length c12] ((x0, x1, x2), (x3, x4, x5, x6), (x7, x8, x9, x10), x11, x12)) : (shDisk).R w lo hi [.int .i64 x0, .slice A1 x1.length c1, .slice A2 x2.length c2] (x0, x1, x2) := by
 obtain ⟨A1', c1', A2', c2', A6', c6', A10', c10', A11', c11', A12', c12', e, g1, g2, g6, g10, g11, g12⟩ := shCache_R.1 h
 simp only [List.cons.injEq, Value.slice.injEq] at e
 simp only [true_and, and_true] at e
 obtain ⟨⟨rfl, rfl⟩, ⟨rfl, rfl⟩, ⟨rfl, rfl⟩, ⟨rfl, rfl⟩, ⟨rfl, rfl⟩, ⟨rfl, rfl⟩⟩ := e
 exact shDisk_R.2 ⟨_, _, _, _, rfl, g1, g2⟩
theorem shCache_f3 {w : World} {lo hi : Nat} {x0 : Int} {x1 : List ByteArray} {x2 : List TyPut} {x3 : Int} {x4 : Int} {x5 : Int} {x6 : List TySeat} {x7 : Int} {x8 : Int} {x9 : Int} {x10 : List TySeat} {x11 : List TySeat} {x12 : List Int} {A1 : Option Addr} {c1 : Nat} {A2 : Option Addr} {c2 : Nat} {A6 : Option Addr} {c6 : Nat} {A10 : Option Addr} {c10 : Nat} {A11 : Option Addr} {c11 : Nat} {A12 : Option Addr} {c12 : Nat} (h : shCache.R w lo hi [.int .i64 x0, .slice A1 x1.length c1, .slice A2 x2.length c2, .int .i64 x3, .int .i64 x4, .int .i64 x5, .slice A6 x6.length c6, .int .i64 x7, .int .i64 x8, .int .i64 x9, .slice A10 x10.length c10, .slice A11 x11.length c11, .slice A12 x12.length c12] ((x0, x1, x2), (x3, x4, x5, x6), (x7, x8, x9, x10), x11, x12)) : (shTop).R w lo hi [.int .i64 x3, .int .i64 x4, .int .i64 x5, .slice A6 x6.length c6] (x3, x4, x5, x6) := by
 obtain ⟨A1', c1', A2', c2', A6', c6', A10', c10', A11', c11', A12', c12', e, g1, g2, g6, g10, g11, g12⟩ := shCache_R.1 h
 simp only [List.cons.injEq, Value.slice.injEq] at e
 simp only [true_and, and_true] at e
 obtain ⟨⟨rfl, rfl⟩, ⟨rfl, rfl⟩, ⟨rfl, rfl⟩, ⟨rfl, rfl⟩, ⟨rfl, rfl⟩, ⟨rfl, rfl⟩⟩ := e
 exact shTop_R.2 ⟨_, _, rfl, g6⟩
theorem shCache_f7 {w : World} {lo hi : Nat} {x0 : Int} {x1 : List ByteArray} {x2 : List TyPut} {x3 : Int} {x4 : Int} {x5 : Int} {x6 : List TySeat} {x7 : Int} {x8 : Int} {x9 : Int} {x10 : List TySeat} {x11 : List TySeat} {x12 : List Int} {A1 : Option Addr} {c1 : Nat} {A2 : Option Addr} {c2 : Nat} {A6 : Option Addr} {c6 : Nat} {A10 : Option Addr} {c10 : Nat} {A11 : Option Addr} {c11 : Nat} {A12 : Option Addr} {c12 : Nat} (h : shCache.R w lo hi [.int .i64 x0, .slice A1 x1.length c1, .slice A2 x2.length c2, .int .i64 x3, .int .i64 x4, .int .i64 x5, .slice A6 x6.length c6, .int .i64 x7, .int .i64 x8, .int .i64 x9, .slice A10 x10.length c10, .slice A11 x11.length c11, .slice A12 x12.length c12] ((x0, x1, x2), (x3, x4, x5, x6), (x7, x8, x9, x10), x11, x12)) : (shTop).R w lo hi [.int .i64 x7, .int .i64 x8, .int .i64 x9, .slice A10 x10.length c10] (x7, x8, x9, x10) := by
 obtain ⟨A1', c1', A2', c2', A6', c6', A10', c10', A11', c11', A12', c12', e, g1, g2, g6, g10, g11, g12⟩ := shCache_R.1 h
 simp only [List.cons.injEq, Value.slice.injEq] at e
 simp only [true_and, and_true] at e
 obtain ⟨⟨rfl, rfl⟩, ⟨rfl, rfl⟩, ⟨rfl, rfl⟩, ⟨rfl, rfl⟩, ⟨rfl, rfl⟩, ⟨rfl, rfl⟩⟩ := e
 exact shTop_R.2 ⟨_, _, rfl, g10⟩
theorem shCache_f11 {w : World} {lo hi : Nat} {x0 : Int} {x1 : List ByteArray} {x2 : List TyPut} {x3 : Int} {x4 : Int} {x5 : Int} {x6 : List TySeat} {x7 : Int} {x8 : Int} {x9 : Int} {x10 : List TySeat} {x11 : List TySeat} {x12 : List Int} {A1 : Option Addr} {c1 : Nat} {A2 : Option Addr} {c2 : Nat} {A6 : Option Addr} {c6 : Nat} {A10 : Option Addr} {c10 : Nat} {A11 : Option Addr} {c11 : Nat} {A12 : Option Addr} {c12 : Nat} (h : shCache.R w lo hi [.int .i64 x0, .slice A1 x1.length c1, .slice A2 x2.length c2, .int .i64 x3, .int .i64 x4, .int .i64 x5, .slice A6 x6.length c6, .int .i64 x7, .int .i64 x8, .int .i64 x9, .slice A10 x10.length c10, .slice A11 x11.length c11, .slice A12 x12.length c12] ((x0, x1, x2), (x3, x4, x5, x6), (x7, x8, x9, x10), x11, x12)) : (Sh.row 273 shSeat).R w lo hi [.slice A11 x11.length c11] x11 := by
 obtain ⟨A1', c1', A2', c2', A6', c6', A10', c10', A11', c11', A12', c12', e, g1, g2, g6, g10, g11, g12⟩ := shCache_R.1 h
 simp only [List.cons.injEq, Value.slice.injEq] at e
 simp only [true_and, and_true] at e
 obtain ⟨⟨rfl, rfl⟩, ⟨rfl, rfl⟩, ⟨rfl, rfl⟩, ⟨rfl, rfl⟩, ⟨rfl, rfl⟩, ⟨rfl, rfl⟩⟩ := e
 exact ⟨_, _, rfl, g11⟩
theorem shCache_f12 {w : World} {lo hi : Nat} {x0 : Int} {x1 : List ByteArray} {x2 : List TyPut} {x3 : Int} {x4 : Int} {x5 : Int} {x6 : List TySeat} {x7 : Int} {x8 : Int} {x9 : Int} {x10 : List TySeat} {x11 : List TySeat} {x12 : List Int} {A1 : Option Addr} {c1 : Nat} {A2 : Option Addr} {c2 : Nat} {A6 : Option Addr} {c6 : Nat} {A10 : Option Addr} {c10 : Nat} {A11 : Option Addr} {c11 : Nat} {A12 : Option Addr} {c12 : Nat} (h : shCache.R w lo hi [.int .i64 x0, .slice A1 x1.length c1, .slice A2 x2.length c2, .int .i64 x3, .int .i64 x4, .int .i64 x5, .slice A6 x6.length c6, .int .i64 x7, .int .i64 x8, .int .i64 x9, .slice A10 x10.length c10, .slice A11 x11.length c11, .slice A12 x12.length c12] ((x0, x1, x2), (x3, x4, x5, x6), (x7, x8, x9, x10), x11, x12)) : (Sh.row 2 shI).R w lo hi [.slice A12 x12.length c12] x12 := by
 obtain ⟨A1', c1', A2', c2', A6', c6', A10', c10', A11', c11', A12', c12', e, g1, g2, g6, g10, g11, g12⟩ := shCache_R.1 h
 simp only [List.cons.injEq, Value.slice.injEq] at e
 simp only [true_and, and_true] at e
 obtain ⟨⟨rfl, rfl⟩, ⟨rfl, rfl⟩, ⟨rfl, rfl⟩, ⟨rfl, rfl⟩, ⟨rfl, rfl⟩, ⟨rfl, rfl⟩⟩ := e
 exact ⟨_, _, rfl, g12⟩
theorem shCache_cost (x0 : Int) (x1 : List ByteArray) (x2 : List TyPut) (x3 : Int) (x4 : Int) (x5 : Int) (x6 : List TySeat) (x7 : Int) (x8 : Int) (x9 : Int) (x10 : List TySeat) (x11 : List TySeat) (x12 : List Int) : shCache.cost ((x0, x1, x2), (x3, x4, x5, x6), (x7, x8, x9, x10), x11, x12) = (shDisk).cost (x0, x1, x2) + ((shTop).cost (x3, x4, x5, x6) + ((shTop).cost (x7, x8, x9, x10) + ((Sh.row 273 shSeat).cost x11 + ((Sh.row 2 shI).cost x12)))) := rfl
theorem shCache_fit {m : Nat} (x0 : Int) (x1 : List ByteArray) (x2 : List TyPut) (x3 : Int) (x4 : Int) (x5 : Int) (x6 : List TySeat) (x7 : Int) (x8 : Int) (x9 : Int) (x10 : List TySeat) (x11 : List TySeat) (x12 : List Int) : shCache.fit m ((x0, x1, x2), (x3, x4, x5, x6), (x7, x8, x9, x10), x11, x12) ↔ (shDisk).fit m (x0, x1, x2) ∧ (shTop).fit m (x3, x4, x5, x6) ∧ (shTop).fit m (x7, x8, x9, x10) ∧ (Sh.row 273 shSeat).fit m x11 ∧ (Sh.row 2 shI).fit m x12 := Iff.rfl
abbrev TyJournal := TyDisk × Int × Int × Int × Int
def shJournal : Sh TyJournal := Sh.prod (shDisk) (Sh.prod (shI) (Sh.prod (shI) (Sh.prod (shI) (shI))))
theorem shJournal_R {w : World} {lo hi : Nat} {vs : List Value} {x0 : Int} {x1 : List ByteArray} {x2 : List TyPut} {x3 : Int} {x4 : Int} {x5 : Int} {x6 : Int} : shJournal.R w lo hi vs ((x0, x1, x2), x3, x4, x5, x6) ↔ ∃ A1 c1, ∃ A2 c2, vs = [.int .i64 x0, .slice A1 x1.length c1, .slice A2 x2.length c2, .int .i64 x3, .int .i64 x4, .int .i64 x5, .int .i64 x6] ∧ RowG shS w lo hi A1 x1 ∧ RowG shPut w lo hi A2 x2 := by
 constructor
 ·rintro ⟨_, _, rfl, ⟨_, _, rfl, rfl, ⟨_, _, rfl, ⟨A1, c1, rfl, g1⟩, ⟨A2, c2, rfl, g2⟩⟩⟩, ⟨_, _, rfl, rfl, ⟨_, _, rfl, rfl, ⟨_, _, rfl, rfl, rfl⟩⟩⟩⟩
  exact ⟨A1, c1, A2, c2, rfl, g1, g2⟩
 ·rintro ⟨A1, c1, A2, c2, rfl, g1, g2⟩
  exact ⟨[.int .i64 x0, .slice A1 x1.length c1, .slice A2 x2.length c2], [.int .i64 x3, .int .i64 x4, .int .i64 x5, .int .i64 x6], rfl, ⟨[.int .i64 x0], [.slice A1 x1.length c1, .slice A2 x2.length c2], rfl, rfl, ⟨[.slice A1 x1.length c1], [.slice A2 x2.length c2], rfl, ⟨A1, c1, rfl, g1⟩, ⟨A2, c2, rfl, g2⟩⟩⟩, ⟨[.int .i64 x3], [.int .i64 x4, .int .i64 x5, .int .i64 x6], rfl, rfl, ⟨[.int .i64 x4], [.int .i64 x5, .int .i64 x6], rfl, rfl, ⟨[.int .i64 x5], [.int .i64 x6], rfl, rfl, rfl⟩⟩⟩⟩
theorem shJournal_f0 {w : World} {lo hi : Nat} {x0 : Int} {x1 : List ByteArray} {x2 : List TyPut} {x3 : Int} {x4 : Int} {x5 : Int} {x6 : Int} {A1 : Option Addr} {c1 : Nat} {A2 : Option Addr} {c2 : Nat} (h : shJournal.R w lo hi [.int .i64 x0, .slice A1 x1.length c1, .slice A2 x2.length c2, .int .i64 x3, .int .i64 x4, .int .i64 x5, .int .i64 x6] ((x0, x1, x2), x3, x4, x5, x6)) : (shDisk).R w lo hi [.int .i64 x0, .slice A1 x1.length c1, .slice A2 x2.length c2] (x0, x1, x2) := by
 obtain ⟨A1', c1', A2', c2', e, g1, g2⟩ := shJournal_R.1 h
 simp only [List.cons.injEq, Value.slice.injEq] at e
 simp only [true_and, and_true] at e
 obtain ⟨⟨rfl, rfl⟩, ⟨rfl, rfl⟩⟩ := e
 exact shDisk_R.2 ⟨_, _, _, _, rfl, g1, g2⟩
theorem shJournal_cost (x0 : Int) (x1 : List ByteArray) (x2 : List TyPut) (x3 : Int) (x4 : Int) (x5 : Int) (x6 : Int) : shJournal.cost ((x0, x1, x2), x3, x4, x5, x6) = (shDisk).cost (x0, x1, x2) + (0 + (0 + (0 + (0)))) := rfl
theorem shJournal_fit {m : Nat} (x0 : Int) (x1 : List ByteArray) (x2 : List TyPut) (x3 : Int) (x4 : Int) (x5 : Int) (x6 : Int) : shJournal.fit m ((x0, x1, x2), x3, x4, x5, x6) ↔ (shDisk).fit m (x0, x1, x2) ∧ 0 ≤ m ∧ 0 ≤ m ∧ 0 ≤ m ∧ 0 ≤ m := Iff.rfl
abbrev TyPage := Bool × List ByteArray × List ByteArray × List Int
def shPage : Sh TyPage := Sh.prod (shB) (Sh.prod (Sh.row 9 shS) (Sh.prod (Sh.row 9 shS) (Sh.row 2 shI)))
theorem shPage_R {w : World} {lo hi : Nat} {vs : List Value} {x0 : Bool} {x1 : List ByteArray} {x2 : List ByteArray} {x3 : List Int} : shPage.R w lo hi vs (x0, x1, x2, x3) ↔ ∃ A1 c1, ∃ A2 c2, ∃ A3 c3, vs = [.bool x0, .slice A1 x1.length c1, .slice A2 x2.length c2, .slice A3 x3.length c3] ∧ RowG shS w lo hi A1 x1 ∧ RowG shS w lo hi A2 x2 ∧ RowG shI w lo hi A3 x3 := by
 constructor
 ·rintro ⟨_, _, rfl, rfl, ⟨_, _, rfl, ⟨A1, c1, rfl, g1⟩, ⟨_, _, rfl, ⟨A2, c2, rfl, g2⟩, ⟨A3, c3, rfl, g3⟩⟩⟩⟩
  exact ⟨A1, c1, A2, c2, A3, c3, rfl, g1, g2, g3⟩
 ·rintro ⟨A1, c1, A2, c2, A3, c3, rfl, g1, g2, g3⟩
  exact ⟨[.bool x0], [.slice A1 x1.length c1, .slice A2 x2.length c2, .slice A3 x3.length c3], rfl, rfl, ⟨[.slice A1 x1.length c1], [.slice A2 x2.length c2, .slice A3 x3.length c3], rfl, ⟨A1, c1, rfl, g1⟩, ⟨[.slice A2 x2.length c2], [.slice A3 x3.length c3], rfl, ⟨A2, c2, rfl, g2⟩, ⟨A3, c3, rfl, g3⟩⟩⟩⟩
theorem shPage_f1 {w : World} {lo hi : Nat} {x0 : Bool} {x1 : List ByteArray} {x2 : List ByteArray} {x3 : List Int} {A1 : Option Addr} {c1 : Nat} {A2 : Option Addr} {c2 : Nat} {A3 : Option Addr} {c3 : Nat} (h : shPage.R w lo hi [.bool x0, .slice A1 x1.length c1, .slice A2 x2.length c2, .slice A3 x3.length c3] (x0, x1, x2, x3)) : (Sh.row 9 shS).R w lo hi [.slice A1 x1.length c1] x1 := by
 obtain ⟨A1', c1', A2', c2', A3', c3', e, g1, g2, g3⟩ := shPage_R.1 h
 simp only [List.cons.injEq, Value.slice.injEq] at e
 simp only [true_and, and_true] at e
 obtain ⟨⟨rfl, rfl⟩, ⟨rfl, rfl⟩, ⟨rfl, rfl⟩⟩ := e
 exact ⟨_, _, rfl, g1⟩
theorem shPage_f2 {w : World} {lo hi : Nat} {x0 : Bool} {x1 : List ByteArray} {x2 : List ByteArray} {x3 : List Int} {A1 : Option Addr} {c1 : Nat} {A2 : Option Addr} {c2 : Nat} {A3 : Option Addr} {c3 : Nat} (h : shPage.R w lo hi [.bool x0, .slice A1 x1.length c1, .slice A2 x2.length c2, .slice A3 x3.length c3] (x0, x1, x2, x3)) : (Sh.row 9 shS).R w lo hi [.slice A2 x2.length c2] x2 := by
 obtain ⟨A1', c1', A2', c2', A3', c3', e, g1, g2, g3⟩ := shPage_R.1 h
 simp only [List.cons.injEq, Value.slice.injEq] at e
 simp only [true_and, and_true] at e
 obtain ⟨⟨rfl, rfl⟩, ⟨rfl, rfl⟩, ⟨rfl, rfl⟩⟩ := e
 exact ⟨_, _, rfl, g2⟩
theorem shPage_f3 {w : World} {lo hi : Nat} {x0 : Bool} {x1 : List ByteArray} {x2 : List ByteArray} {x3 : List Int} {A1 : Option Addr} {c1 : Nat} {A2 : Option Addr} {c2 : Nat} {A3 : Option Addr} {c3 : Nat} (h : shPage.R w lo hi [.bool x0, .slice A1 x1.length c1, .slice A2 x2.length c2, .slice A3 x3.length c3] (x0, x1, x2, x3)) : (Sh.row 2 shI).R w lo hi [.slice A3 x3.length c3] x3 := by
 obtain ⟨A1', c1', A2', c2', A3', c3', e, g1, g2, g3⟩ := shPage_R.1 h
 simp only [List.cons.injEq, Value.slice.injEq] at e
 simp only [true_and, and_true] at e
 obtain ⟨⟨rfl, rfl⟩, ⟨rfl, rfl⟩, ⟨rfl, rfl⟩⟩ := e
 exact ⟨_, _, rfl, g3⟩
theorem shPage_cost (x0 : Bool) (x1 : List ByteArray) (x2 : List ByteArray) (x3 : List Int) : shPage.cost (x0, x1, x2, x3) = 0 + ((Sh.row 9 shS).cost x1 + ((Sh.row 9 shS).cost x2 + ((Sh.row 2 shI).cost x3))) := rfl
theorem shPage_fit {m : Nat} (x0 : Bool) (x1 : List ByteArray) (x2 : List ByteArray) (x3 : List Int) : shPage.fit m (x0, x1, x2, x3) ↔ 0 ≤ m ∧ (Sh.row 9 shS).fit m x1 ∧ (Sh.row 9 shS).fit m x2 ∧ (Sh.row 2 shI).fit m x3 := Iff.rfl
abbrev TySlot := Int × TyPage
def shSlot : Sh TySlot := Sh.prod (shI) (shPage)
theorem shSlot_R {w : World} {lo hi : Nat} {vs : List Value} {x0 : Int} {x1 : Bool} {x2 : List ByteArray} {x3 : List ByteArray} {x4 : List Int} : shSlot.R w lo hi vs (x0, (x1, x2, x3, x4)) ↔ ∃ A2 c2, ∃ A3 c3, ∃ A4 c4, vs = [.int .i64 x0, .bool x1, .slice A2 x2.length c2, .slice A3 x3.length c3, .slice A4 x4.length c4] ∧ RowG shS w lo hi A2 x2 ∧ RowG shS w lo hi A3 x3 ∧ RowG shI w lo hi A4 x4 := by
 constructor
 ·rintro ⟨_, _, rfl, rfl, ⟨_, _, rfl, rfl, ⟨_, _, rfl, ⟨A2, c2, rfl, g2⟩, ⟨_, _, rfl, ⟨A3, c3, rfl, g3⟩, ⟨A4, c4, rfl, g4⟩⟩⟩⟩⟩
  exact ⟨A2, c2, A3, c3, A4, c4, rfl, g2, g3, g4⟩
 ·rintro ⟨A2, c2, A3, c3, A4, c4, rfl, g2, g3, g4⟩
  exact ⟨[.int .i64 x0], [.bool x1, .slice A2 x2.length c2, .slice A3 x3.length c3, .slice A4 x4.length c4], rfl, rfl, ⟨[.bool x1], [.slice A2 x2.length c2, .slice A3 x3.length c3, .slice A4 x4.length c4], rfl, rfl, ⟨[.slice A2 x2.length c2], [.slice A3 x3.length c3, .slice A4 x4.length c4], rfl, ⟨A2, c2, rfl, g2⟩, ⟨[.slice A3 x3.length c3], [.slice A4 x4.length c4], rfl, ⟨A3, c3, rfl, g3⟩, ⟨A4, c4, rfl, g4⟩⟩⟩⟩⟩
theorem shSlot_f1 {w : World} {lo hi : Nat} {x0 : Int} {x1 : Bool} {x2 : List ByteArray} {x3 : List ByteArray} {x4 : List Int} {A2 : Option Addr} {c2 : Nat} {A3 : Option Addr} {c3 : Nat} {A4 : Option Addr} {c4 : Nat} (h : shSlot.R w lo hi [.int .i64 x0, .bool x1, .slice A2 x2.length c2, .slice A3 x3.length c3, .slice A4 x4.length c4] (x0, (x1, x2, x3, x4))) : (shPage).R w lo hi [.bool x1, .slice A2 x2.length c2, .slice A3 x3.length c3, .slice A4 x4.length c4] (x1, x2, x3, x4) := by
 obtain ⟨A2', c2', A3', c3', A4', c4', e, g2, g3, g4⟩ := shSlot_R.1 h
 simp only [List.cons.injEq, Value.slice.injEq] at e
 simp only [true_and, and_true] at e
 obtain ⟨⟨rfl, rfl⟩, ⟨rfl, rfl⟩, ⟨rfl, rfl⟩⟩ := e
 exact shPage_R.2 ⟨_, _, _, _, _, _, rfl, g2, g3, g4⟩
theorem infoSlot : (Tryz.prog.info? 239).map (fun i => (i.zero, i.size, i.bytes)) = some (some (.agg zz12), 5, 88) := by kernel_rfl
def zeroSlot : Array Value := zz12
theorem shSlot_cost (x0 : Int) (x1 : Bool) (x2 : List ByteArray) (x3 : List ByteArray) (x4 : List Int) : shSlot.cost (x0, (x1, x2, x3, x4)) = 0 + ((shPage).cost (x1, x2, x3, x4)) := rfl
theorem shSlot_fit {m : Nat} (x0 : Int) (x1 : Bool) (x2 : List ByteArray) (x3 : List ByteArray) (x4 : List Int) : shSlot.fit m (x0, (x1, x2, x3, x4)) ↔ 0 ≤ m ∧ (shPage).fit m (x1, x2, x3, x4) := Iff.rfl
theorem shSlot_at {w : World} {lo hi : Nat} {A : Option Addr} {n c : Nat} {xs : List TySlot} {t : TypeId} (h : (Sh.row t shSlot).R w lo hi [.slice A n c] xs) {j : Nat} (hj : j < n) :
  xs.length = n ∧ ∃ b off, A = some ⟨b, off, none⟩ ∧ lo ≤ b ∧ b < hi ∧ ∃ (A2 : Option Addr) (c2 : Nat), ∃ (A3 : Option Addr) (c3 : Nat), ∃ (A4 : Option Addr) (c4 : Nat), w.cell? ⟨b, off + j * 5, none⟩ = some (.int .i64 (xs.getD j shSlot.d).1) ∧ w.cell? ⟨b, off + j * 5 + 1, none⟩ = some (.bool (xs.getD j shSlot.d).2.1) ∧ w.cell? ⟨b, off + j * 5 + 2, none⟩ = some (.slice A2 (xs.getD j shSlot.d).2.2.1.length c2) ∧ w.cell? ⟨b, off + j * 5 + 3, none⟩ = some (.slice A3 (xs.getD j shSlot.d).2.2.2.1.length c3) ∧ w.cell? ⟨b, off + j * 5 + 4, none⟩ = some (.slice A4 (xs.getD j shSlot.d).2.2.2.2.length c4) ∧ shSlot.R w lo hi [.int .i64 (xs.getD j shSlot.d).1, .bool (xs.getD j shSlot.d).2.1, .slice A2 (xs.getD j shSlot.d).2.2.1.length c2, .slice A3 (xs.getD j shSlot.d).2.2.2.1.length c3, .slice A4 (xs.getD j shSlot.d).2.2.2.2.length c4] (xs.getD j shSlot.d) := by
 obtain ⟨A', c', e, h⟩ := h
 injection e with e _
 injection e with e1 e2 e3
 subst e1 e2
 obtain ⟨b, off, rfl, h1, h2, hc⟩ := h (by omega)
 obtain ⟨us, h3, h4⟩ := hc j hj
 have h5 := h4
 obtain ⟨A2, c2, A3, c3, A4, c4, rfl, _, _, _⟩ := shSlot_R.1 h4
 exact ⟨rfl, b, off, rfl, h1, h2, A2, c2, A3, c3, A4, c4, h3 0 (by simp), h3 1 (by simp), h3 2 (by simp), h3 3 (by simp), h3 4 (by simp), h5⟩
abbrev TyBtree := Int × List TySlot
def shBtree : Sh TyBtree := Sh.prod (shI) (Sh.row 239 shSlot)
theorem shBtree_R {w : World} {lo hi : Nat} {vs : List Value} {x0 : Int} {x1 : List TySlot} : shBtree.R w lo hi vs (x0, x1) ↔ ∃ A1 c1, vs = [.int .i64 x0, .slice A1 x1.length c1] ∧ RowG shSlot w lo hi A1 x1 := by
 constructor
 ·rintro ⟨_, _, rfl, rfl, ⟨A1, c1, rfl, g1⟩⟩
  exact ⟨A1, c1, rfl, g1⟩
 ·rintro ⟨A1, c1, rfl, g1⟩
  exact ⟨[.int .i64 x0], [.slice A1 x1.length c1], rfl, rfl, ⟨A1, c1, rfl, g1⟩⟩
theorem shBtree_f1 {w : World} {lo hi : Nat} {x0 : Int} {x1 : List TySlot} {A1 : Option Addr} {c1 : Nat} (h : shBtree.R w lo hi [.int .i64 x0, .slice A1 x1.length c1] (x0, x1)) : (Sh.row 239 shSlot).R w lo hi [.slice A1 x1.length c1] x1 := by
 obtain ⟨A1', c1', e, g1⟩ := shBtree_R.1 h
 simp only [List.cons.injEq, Value.slice.injEq] at e
 simp only [true_and, and_true] at e
 obtain ⟨rfl, rfl⟩ := e
 exact ⟨_, _, rfl, g1⟩
theorem shBtree_cost (x0 : Int) (x1 : List TySlot) : shBtree.cost (x0, x1) = 0 + ((Sh.row 239 shSlot).cost x1) := rfl
theorem shBtree_fit {m : Nat} (x0 : Int) (x1 : List TySlot) : shBtree.fit m (x0, x1) ↔ 0 ≤ m ∧ (Sh.row 239 shSlot).fit m x1 := Iff.rfl
end Go.Proofs.YtgnmollbnopigaaGreat
