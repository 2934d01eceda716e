/- An argument that is a node, opened. -/
import Derived.Test.YtlhcljhfhkemiaaGreatDoorNodD
import Derived.Test.YtlhcljhfhkemiaaGreatDoorOpenCells
namespace Go.Proofs.YtlhcljhfhkemiaaGreatDoor
open Go.ChangeShapes Go.WideShapes Go.ChangeAt Go.RowKit

theorem nodFields : ∃ fs, Tryz.prog.underlying 24 = some (.struct fs) ∧ fs.toList.map (fun f => (f.type, f.offset)) = [(9, 0), (22, 1), (9, 2)] := ⟨_, Tryz.underlying24, by kernel_rfl⟩
theorem cellsNod : Tryz.prog.cellsOf 24 = 3 := by kernel_rfl

theorem open_nod {H : Type} {enc : TypeId × Value → H} {w : World} {base : Nat} {held : Bool} {fuel : Nat} {cs : List Value} {x : DataW H × List MemPlace} (h : DataW.trod enc Tryz.prog w base (fun _ => true) held fuel 24 cs = some x) :
    ∃ (f : Nod) (A : Option Addr) (c : Nat), cs = [.string f.name, .slice A f.subs.length c, .string f.value] ∧ StrR w 0 w.heap.size A f.subs.length f.subs ∧ NodReach f := by
  obtain ⟨fs, hu, hfs⟩ := nodFields
  obtain ⟨xs, n, _, _, hlen, hxl, hg⟩ := DataW.trod_struct hu h
  rw [cellsNod] at hlen
  obtain ⟨c0, c1, c2, rfl⟩ := list3 hlen
  have F := field_of hfs hxl hg
  obtain ⟨y0, t0⟩ := F 0 _ _ rfl
  obtain ⟨y1, t1⟩ := F 1 _ _ rfl
  obtain ⟨y2, t2⟩ := F 2 _ _ rfl
  rw [cells_string] at t0 t2
  rw [cells_strs] at t1
  simp only [List.drop_zero, List.drop_succ_cons, List.take_succ_cons, List.take_zero] at t0 t1 t2
  obtain ⟨nm, e0, hn⟩ := open_str Tryz.underlying9 t0
  obtain ⟨A, ca, xa, e1, hA, ha1, ha2⟩ := open_strR Tryz.underlying22 Tryz.underlying9 cells_string t1
  obtain ⟨pt, e2, hp⟩ := open_str Tryz.underlying9 t2
  simp only [List.cons.injEq, and_true] at e0 e1 e2
  subst e0 e1 e2
  exact ⟨⟨nm, xa, pt⟩, A, ca, rfl, hA, hn, hp, ha1, ha2⟩
end Go.Proofs.YtlhcljhfhkemiaaGreatDoor
