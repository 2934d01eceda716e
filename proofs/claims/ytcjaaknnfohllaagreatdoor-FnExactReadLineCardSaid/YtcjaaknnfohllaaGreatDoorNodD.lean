/- Nodes: their values; walks of szNode, toNode, eqNode. -/
import Derived.Test.YtcjaaknnfohllaaGreatDoorSlices
import Derived.Test.YtcjaaknnfohllaaGreatDoorNames
import Derived.Test.YtcjaaknnfohllaaGreatDoorLaw
namespace Go.Proofs.YtcjaaknnfohllaaGreatDoor
open Go.RowKit

structure Nod where
  name : ByteArray
  subs : List ByteArray
  value : ByteArray
def nodD : Nod := ⟨ByteArray.empty, [], ByteArray.empty⟩

/-- The value v of a node reads as x. -/
def NodR (w : World) (lo hi : Nat) (v : Value) (x : Nod) : Prop :=
  ∃ A c, v = .agg #[.string x.name, .slice A x.subs.length c, .string x.value] ∧ StrR w lo hi A x.subs.length x.subs
theorem NodR.keep {w w' : World} {lo hi : Nat} {v : Value} {x : Nod} (h : NodR w lo hi v x) (hk : ∀ b, lo ≤ b → b < hi → w'.heap[b]? = w.heap[b]?) : NodR w' lo hi v x := by
  obtain ⟨A, c, hv, h1⟩ := h
  exact ⟨A, c, hv, h1.keep hk⟩
theorem NodR.below {w w' : World} {lo hi B : Nat} {v : Value} {x : Nod} (h : NodR w lo hi v x) (hb : Below B w w') (hB : hi ≤ B) : NodR w' lo hi v x :=
  h.keep fun b _ h2 => hb.block b (by omega)
theorem NodR.more {w : World} {lo hi lo' hi' : Nat} {v : Value} {x : Nod} (h : NodR w lo hi v x) (h1 : lo' ≤ lo) (h2 : hi ≤ hi') : NodR w lo' hi' v x := by
  obtain ⟨A, c, hv, h3⟩ := h
  exact ⟨A, c, hv, h3.more h1 h2⟩
theorem loc_nodR (lo hi : Nat) (v : Value) (x : Nod) : Loc lo hi (fun w => NodR w lo hi v x) := fun _ _ hk h => h.keep hk
theorem loc_strN (lo hi : Nat) (A : Option Addr) (n : Nat) (xs : List ByteArray) : Loc lo hi (fun w => StrR w lo hi A n xs) := fun _ _ hk h => h.keep hk
theorem heap_size_allocN (w : World) (o : Obj) : (w.alloc o).heap.size = w.heap.size + 1 := by simp

def costNod (x : Nod) : Nat := x.name.size + costStrs x.subs + x.value.size
def NodReach (x : Nod) : Prop := x.name.size ≤ 9223372036854775807 ∧ x.value.size ≤ 9223372036854775807 ∧ x.subs.length ≤ 9223372036854775807 ∧ ∀ y ∈ x.subs, y.size ≤ 9223372036854775807
def NodSmall (x : Nod) : Prop := x.name.size ≤ 1048576 ∧ x.value.size ≤ 1048576 ∧ x.subs.length ≤ 1048576 ∧ ∀ y ∈ x.subs, y.size ≤ 1048576
theorem NodSmall.of_cost {x : Nod} (h : costNod x ≤ 1048576) : NodSmall x := by
  unfold costNod costStrs at h
  exact ⟨by omega, by omega, by omega, fun y hy => by have := mem_le_sizeAll hy; omega⟩

theorem szStrs_n (A : Option Addr) (n c lo hi : Nat) (left : Int) (xs : List ByteArray) (w : World) (ha : StrR w lo hi A n xs) (hn : n ≤ 9223372036854775807) (hl0 : 0 ≤ left) (hl : left ≤ 1048576) (hb : ∀ x ∈ xs, x.size ≤ 9223372036854775807) :
    Calls Tryz.prog 75 #[.slice A n c, .int .i64 left] w fun e w' => ∃ m, e = .returned (.int .i64 m) ∧ Left left (costStrs xs) m ∧ w = w' := by
  obtain ⟨k, rfl⟩ := Int.eq_ofNat_of_zero_le hl0
  refine (szStringS_any A n c lo hi k xs w ha hn (by omega) hb).mono fun e w' ⟨he, hw⟩ => ⟨_, he, ?_, hw.symm⟩
  unfold leftStrs Left costStrs
  split
  · right; omega
  · left; rfl

/-- What toNode gives, as a reading. -/
theorem NodR.of_own {w : World} {base : Nat} {x : Nod} {A : Option Addr} {c : Nat} (h : w.ownsRow base 9 1 (.slice A x.subs.length c) x.subs.length (x.subs.map Value.string)) :
    NodR w base w.heap.size (.agg #[.string x.name, .slice A x.subs.length c, .string x.value]) x := ⟨A, c, rfl, StrR.of_own h⟩

set_option maxHeartbeats 1000000 in
/-- Two values of one node: eqNode says yes. -/
theorem eqNode_same (x : Nod) (v v' : Value) (lo hi lo' hi' : Nat) (w : World) (hx : NodR w lo hi v x) (hx' : NodR w lo' hi' v' x) (hhi : hi ≤ w.heap.size) (hhi' : hi' ≤ w.heap.size) (hs : x.subs.length ≤ 1048576) :
    Calls Tryz.prog 14 #[v, v'] w fun e w' => e = .returned (.bool true) ∧ Below w.heap.size w w' := by
  obtain ⟨name, subs, value⟩ := x
  obtain ⟨A, c, rfl, hA⟩ := hx
  obtain ⟨A', c', rfl, hA'⟩ := hx'
  dsimp only at *
  have R1 := (((((Stand.nil w).add lo hi _ (loc_strN lo hi A _ subs) hhi hA).add lo' hi' _ (loc_strN lo' hi' A' _ subs) hhi' hA').box 37 #[.string name, .slice A subs.length c, .string value])).box 37 #[.string name, .slice A' subs.length c', .string value]
  rw [heap_size_allocN] at R1
  have HR1 := Lib.hid R1
  clear hA hA' R1
  go_enter Tryz.func14, Tryz.ntmps14
  go_wp2_with fail
  refine (eqStringS_b _ _ _ _ _ _ lo hi lo' hi' subs subs _ (HR1.out.get 3 rfl) (HR1.out.get 2 rfl) (by omega) (by omega)).mono ?_
  rintro e1 w1 ⟨rfl, hb1⟩
  rw [decide_eq_true rfl]
  have HR2 := Lib.hid (HR1.out.below hb1)
  have f1 := (HR2.out.get 1 rfl).cell
  have f0 := (HR2.out.get 0 rfl).cell
  clear hb1 HR1
  go_wp2_with fail
  go_ret
  exact ⟨rfl, HR2.out.1⟩
end Go.Proofs.YtcjaaknnfohllaaGreatDoor
