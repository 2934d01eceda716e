/- The reference's ReadLine walked, the whole. -/
import Derived.Test.YtfibjcaidnofmaaGreatDoorJoinEXBb
import Derived.Test.YtfibjcaidnofmaaGreatDoorJoinEXAv
namespace Go.Proofs.YtfibjcaidnofmaaGreatDoor
open Go.RowKit

theorem alloc_sz (w : World) (o : Obj) : (w.alloc o).heap.size = w.heap.size + 1 := by simp
/-- The value v is a node of the call's own that reads as x. -/
def NodO (w : World) (base : Nat) (v : Value) (x : Nod) : Prop := ∃ A c, v = .agg #[.string x.name, .slice A x.subs.length c, .string x.value] ∧ OwnStrs w base 9 (.slice A x.subs.length c) x.subs
theorem NodO.zero (w : World) (base : Nat) : NodO w base (.agg #[.string ⟨#[]⟩, .slice none 0 0, .string ⟨#[]⟩]) nodD := ⟨none, 0, rfl, OwnR.nil_ _ _ _⟩
theorem NodO.reads {w : World} {base : Nat} {v : Value} {x : Nod} (h : NodO w base v x) : NodR w base w.heap.size v x := by
  obtain ⟨A, c, e, h⟩ := h
  exact ⟨A, c, e, OwnR.reads h⟩
theorem OwnR.set_low {α : Type} {enc : α → Value} {w : World} {base g o : Nat} {u : Value} {t : TypeId} {v : Value} {xs : List α} (h : OwnR enc w base t v xs) (hg : g < base) : OwnR enc (w.setCell ⟨g, o, none⟩ u) base t v xs := h.within (within_set w g o u) (by omega)
theorem ext_take (T : ByteArray) (p q : Nat) : T.extract p q = mkB ((T.data.toList.drop p).take (q - p)) := by
  rw [← mkB_data (T.extract p q)]
  congr 1
  rw [ByteArray.data_extract, Array.toList_extract, List.extract_eq_take_drop]

end Go.Proofs.YtfibjcaidnofmaaGreatDoor

