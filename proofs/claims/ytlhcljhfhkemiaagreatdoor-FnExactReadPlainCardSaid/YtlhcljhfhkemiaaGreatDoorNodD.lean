/- Nodes: their values; walks of szNode, toNode, eqNode. -/
import Derived.Test.YtlhcljhfhkemiaaGreatDoorSlices
import Derived.Test.YtlhcljhfhkemiaaGreatDoorNames
import Derived.Test.YtlhcljhfhkemiaaGreatDoorLaw
namespace Go.Proofs.YtlhcljhfhkemiaaGreatDoor
open Go.RowKit

structure Nod where
  name : ByteArray
  subs : List ByteArray
  value : ByteArray
def nodD : Nod := ⟨ByteArray.empty, [], ByteArray.empty⟩

/-- The value v of a node reads as x. -/
def NodR (w : World) (lo hi : Nat) (v : Value) (x : Nod) : Prop :=
  ∃ A c, v = .agg #[.string x.name, .slice A x.subs.length c, .string x.value] ∧ StrR w lo hi A x.subs.length x.subs
theorem NodR.keep {w w' : World} {lo hi : Nat} {v : Value} {x : Nod} (h : NodR w lo hi v x) (hk : ∀ b, lo ≤ b → b < hi → w'.heap[b]? = w.heap[b]?) : NodR w' lo hi v x := by
  obtain ⟨A, c, hv, h1⟩ := h
  exact ⟨A, c, hv, h1.keep hk⟩
theorem NodR.below {w w' : World} {lo hi B : Nat} {v : Value} {x : Nod} (h : NodR w lo hi v x) (hb : Below B w w') (hB : hi ≤ B) : NodR w' lo hi v x :=
  h.keep fun b _ h2 => hb.block b (by omega)
theorem NodR.more {w : World} {lo hi lo' hi' : Nat} {v : Value} {x : Nod} (h : NodR w lo hi v x) (h1 : lo' ≤ lo) (h2 : hi ≤ hi') : NodR w lo' hi' v x := by
  obtain ⟨A, c, hv, h3⟩ := h
  exact ⟨A, c, hv, h3.more h1 h2⟩
theorem loc_nodR (lo hi : Nat) (v : Value) (x : Nod) : Loc lo hi (fun w => NodR w lo hi v x) := fun _ _ hk h => h.keep hk
theorem loc_strN (lo hi : Nat) (A : Option Addr) (n : Nat) (xs : List ByteArray) : Loc lo hi (fun w => StrR w lo hi A n xs) := fun _ _ hk h => h.keep hk
theorem heap_size_allocN (w : World) (o : Obj) : (w.alloc o).heap.size = w.heap.size + 1 := by simp

def costNod (x : Nod) : Nat := x.name.size + costStrs x.subs + x.value.size
def NodReach (x : Nod) : Prop := x.name.size ≤ 9223372036854775807 ∧ x.value.size ≤ 9223372036854775807 ∧ x.subs.length ≤ 9223372036854775807 ∧ ∀ y ∈ x.subs, y.size ≤ 9223372036854775807
def NodSmall (x : Nod) : Prop := x.name.size ≤ 1048576 ∧ x.value.size ≤ 1048576 ∧ x.subs.length ≤ 1048576 ∧ ∀ y ∈ x.subs, y.size ≤ 1048576
theorem NodSmall.of_cost {x : Nod} (h : costNod x ≤ 1048576) : NodSmall x := by
  unfold costNod costStrs at h
  exact ⟨by omega, by omega, by omega, fun y hy => by have := mem_le_sizeAll hy; omega⟩

theorem szStrs_n (A : Option Addr) (n c lo hi : Nat) (left : Int) (xs : List ByteArray) (w : World) (ha : StrR w lo hi A n xs) (hn : n ≤ 9223372036854775807) (hl0 : 0 ≤ left) (hl : left ≤ 1048576) (hb : ∀ x ∈ xs, x.size ≤ 9223372036854775807) :
    Calls Tryz.prog 18 #[.slice A n c, .int .i64 left] w fun e w' => ∃ m, e = .returned (.int .i64 m) ∧ Left left (costStrs xs) m ∧ w = w' := by
  obtain ⟨k, rfl⟩ := Int.eq_ofNat_of_zero_le hl0
  refine (szStringS_any A n c lo hi k xs w ha hn (by omega) hb).mono fun e w' ⟨he, hw⟩ => ⟨_, he, ?_, hw.symm⟩
  unfold leftStrs Left costStrs
  split
  · right; omega
  · left; rfl

set_option maxHeartbeats 1000000 in
theorem szNode_any (x : Nod) (v : Value) (lo hi : Nat) (left : Int) (w : World) (hx : NodR w lo hi v x) (hhi : hi ≤ w.heap.size) (hr : NodReach x) (hl0 : 0 ≤ left) (hl : left ≤ 1048576) :
    Calls Tryz.prog 6 #[v, .int .i64 left] w fun e w' => ∃ m, e = .returned (.int .i64 m) ∧ Left left (costNod x) m ∧ Below w.heap.size w w' := by
  obtain ⟨name, subs, value⟩ := x
  obtain ⟨A, c, rfl, hA⟩ := hx
  obtain ⟨h1, h2, h3, h4⟩ := hr
  dsimp only at *
  have hbo := fun o => (Below.refl w.heap.size w).alloc (Nat.le_refl _) o
  have HA := Lib.hid (fun o => hA.below (hbo o) hhi)
  have HD := Lib.hid hbo
  have H4 := Lib.hid h4
  clear hA hbo h4
  by_cases g1 : left - (name.size : Int) < 0
  · go_enter Tryz.func6, Tryz.ntmps6
    go_wp2_with fail
    go_ret
    exact ⟨_, rfl, .inl rfl, HD.out _⟩
  go_enter Tryz.func6, Tryz.ntmps6
  go_wp2_with fail
  refine (szStrs_n _ _ _ lo hi _ subs _ (HA.out _) (by omega) (by omega) (by omega) H4.out).mono ?_
  rintro e1 w1 ⟨m1, rfl, hm1, rfl⟩
  rcases hm1 with rfl | ⟨hm0, hm1⟩
  · go_wp2_with fail
    go_ret
    exact ⟨_, rfl, .inl rfl, HD.out _⟩
  have n1 : ¬ (m1 < 0) := by omega
  have HM1 := Lib.hid hm1
  have hm1' : m1 ≤ left := by omega
  clear hm1
  by_cases g2 : m1 - (value.size : Int) < 0
  · go_wp2_with fail
    go_ret
    exact ⟨_, rfl, .inl rfl, HD.out _⟩
  go_wp2_with fail
  go_ret
  refine ⟨_, rfl, .inr ⟨by omega, ?_⟩, HD.out _⟩
  have := HM1.out
  unfold costNod
  dsimp only
  omega

set_option maxHeartbeats 1000000 in
theorem toNode_any (x : Nod) (v : Value) (lo hi : Nat) (w : World) (hx : NodR w lo hi v x) (hhi : hi ≤ w.heap.size) (hs : NodSmall x) :
    Calls Tryz.prog 8 #[v] w fun e w' => ∃ A c, e = .returned (.agg #[.string x.name, .slice A x.subs.length c, .string x.value]) ∧ w'.ownsRow w.heap.size 9 1 (.slice A x.subs.length c) x.subs.length (x.subs.map Value.string) ∧ Below w.heap.size w w' := by
  obtain ⟨name, subs, value⟩ := x
  obtain ⟨A, c, rfl, hA⟩ := hx
  obtain ⟨h1, h2, h3, h4⟩ := hs
  dsimp only at *
  have HA := Lib.hid hA
  clear hA h4
  go_enter Tryz.func8, Tryz.ntmps8
  go_wp2_with fail
  have T0 := Three.start w 24 27 27 #[.string name, .slice A subs.length c, .string value] #[.string ⟨#[]⟩, .slice none 0 0, .string ⟨#[]⟩] #[.string name, .slice none 0 0, .string ⟨#[]⟩]
  refine (toStringS_any _ _ _ lo hi subs _ (HA.out.below T0.2.2.2 hhi) (Nat.le_trans hhi T0.2.2.2.size) h3).mono ?_
  rintro e1 w1 ⟨v1, rfl, ⟨⟨A1, c1, rfl⟩, ho1⟩, hb1⟩
  have T1 := T0.call hb1
  have ho1' := own_mono (base' := w.heap.size + 1 + 1 + 1) ho1 (by simp)
  clear T0 hb1 ho1
  have f0 := T1.1.cell
  have f1 := T1.2.1.cell
  have z1 := T1.2.1.frozen
  have f2 := T1.2.2.1.cell
  have z2 := T1.2.2.1.frozen
  have TT := Lib.hid T1; clear T1
  have O1 := Lib.hid ho1'; clear ho1'
  go_wp2_with fail
  refine bodyPost_ret (v := .agg #[.string name, .slice A1 subs.length c1, .string value]) (by simp [results, Tryz.results8, go_sem, f1]) rfl ⟨A1, c1, rfl, ?_, ?_⟩
  · refine own_mono (base := w.heap.size + 1 + 1 + 1) ?_ (by omega)
    iterate 5 (with_reducible refine ownsRow_setCell_below ?_ (by simp; try omega) _)
    exact O1.out
  · iterate 5 (with_reducible refine Below.setCell ?_ (by simp; try omega) _)
    exact TT.out.2.2.2

/-- What toNode gives, as a reading. -/
theorem NodR.of_own {w : World} {base : Nat} {x : Nod} {A : Option Addr} {c : Nat} (h : w.ownsRow base 9 1 (.slice A x.subs.length c) x.subs.length (x.subs.map Value.string)) :
    NodR w base w.heap.size (.agg #[.string x.name, .slice A x.subs.length c, .string x.value]) x := ⟨A, c, rfl, StrR.of_own h⟩

set_option maxHeartbeats 1000000 in
/-- Two values of one node: eqNode says yes. -/
theorem eqNode_same (x : Nod) (v v' : Value) (lo hi lo' hi' : Nat) (w : World) (hx : NodR w lo hi v x) (hx' : NodR w lo' hi' v' x) (hhi : hi ≤ w.heap.size) (hhi' : hi' ≤ w.heap.size) (hs : x.subs.length ≤ 1048576) :
    Calls Tryz.prog 10 #[v, v'] w fun e w' => e = .returned (.bool true) ∧ Below w.heap.size w w' := by
  obtain ⟨name, subs, value⟩ := x
  obtain ⟨A, c, rfl, hA⟩ := hx
  obtain ⟨A', c', rfl, hA'⟩ := hx'
  dsimp only at *
  have R1 := (((((Stand.nil w).add lo hi _ (loc_strN lo hi A _ subs) hhi hA).add lo' hi' _ (loc_strN lo' hi' A' _ subs) hhi' hA').box 27 #[.string name, .slice A subs.length c, .string value])).box 27 #[.string name, .slice A' subs.length c', .string value]
  rw [heap_size_allocN] at R1
  have HR1 := Lib.hid R1
  clear hA hA' R1
  go_enter Tryz.func10, Tryz.ntmps10
  go_wp2_with fail
  refine (eqStringS_b _ _ _ _ _ _ lo hi lo' hi' subs subs _ (HR1.out.get 3 rfl) (HR1.out.get 2 rfl) (by omega) (by omega)).mono ?_
  rintro e1 w1 ⟨rfl, hb1⟩
  rw [decide_eq_true rfl]
  have HR2 := Lib.hid (HR1.out.below hb1)
  have f1 := (HR2.out.get 1 rfl).cell
  have f0 := (HR2.out.get 0 rfl).cell
  clear hb1 HR1
  go_wp2_with fail
  go_ret
  exact ⟨rfl, HR2.out.1⟩
end Go.Proofs.YtlhcljhfhkemiaaGreatDoor
