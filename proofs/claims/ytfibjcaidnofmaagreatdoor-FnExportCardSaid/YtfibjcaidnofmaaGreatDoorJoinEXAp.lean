/- The reference's reader walked: more, quoted, digits, codes. -/
import Derived.Test.YtfibjcaidnofmaaGreatDoorJoinEXAm
import Derived.Test.YtfibjcaidnofmaaGreatDoorJoinEXAc
import Derived.Test.YtfibjcaidnofmaaGreatDoorJoinEXAd
import Derived.Test.YtfibjcaidnofmaaGreatDoorJoinEXAe
import Derived.StillTailTactics
import Derived.Test.YtfibjcaidnofmaaGreatDoorJoinEXAb
namespace Go.Proofs.YtfibjcaidnofmaaGreatDoor
open Go.RowKit

theorem within_set (w : World) (B o : Nat) (u : Value) : Within B (B + 1) w (w.setCell ⟨B, o, none⟩ u) :=
  ⟨rfl, rfl, rfl, by simp, fun k _ hd => Below.heap_setCell w ⟨B, o, none⟩ u k (show k ≠ B by omega)⟩
theorem drop_ext (T : ByteArray) (p : Nat) : (T.extract p T.size).data.toList = T.data.toList.drop p := by
  rw [ByteArray.data_extract, Array.toList_extract, List.extract_eq_take_drop, List.take_of_length_le]
  rw [List.length_drop, Array.length_toList]; exact Nat.le_refl _

theorem OwnR.within {α : Type} {enc : α → Value} {w w' : World} {base lo hi : Nat} {t : TypeId} {v : Value} {xs : List α} (h : OwnR enc w base t v xs) (hw : Within lo hi w w') (hb : hi ≤ base) : OwnR enc w' base t v xs := by
  refine ⟨h.1, h.2.1, ?_⟩
  rcases h.2.2 with h2 | ⟨g, cap, cur, h1, hg, hc, r⟩
  · exact .inl h2
  · have hlt : g < w.heap.size := by
      rcases Nat.lt_or_ge g w.heap.size with h' | h'
      · exact h'
      · rw [Array.getElem?_eq_none h'] at hc; cases hc
    exact .inr ⟨g, cap, cur, h1, hg, (hw.block g hlt (.inr (by omega))).trans hc, r⟩
theorem Blk.within {w w' : World} {g lo hi : Nat} {t : TypeId} {cs : Array Value} (h : Blk w g t cs) (hw : Within lo hi w w') (hg : g < lo ∨ hi ≤ g) : Blk w' g t cs := (hw.block g h.lt hg).trans h

theorem drop_at (T : ByteArray) (k : Nat) (h : k < T.size) : T.data.toList.drop k = T[k] :: T.data.toList.drop (k + 1) := List.drop_eq_getElem_cons (by simpa using h)
theorem one_pre (c : UInt8) (l : List UInt8) : [c].isPrefixOf l = true ↔ ∃ r, l = c :: r := by
  rw [List.isPrefixOf_iff_prefix]
  constructor
  · rintro ⟨r, e⟩; exact ⟨r, e.symm⟩
  · rintro ⟨r, e⟩; exact ⟨r, e.symm⟩

end Go.Proofs.YtfibjcaidnofmaaGreatDoor

/- The reference's reader walked: digits, codes. -/
namespace Go.Proofs.YtfibjcaidnofmaaGreatDoor
open Go.RowKit

end Go.Proofs.YtfibjcaidnofmaaGreatDoor

/- The reference's reader walked: codes. -/
namespace Go.Proofs.YtfibjcaidnofmaaGreatDoor
open Go.RowKit

theorem len_at (T : ByteArray) (p : Nat) (hp : p ≤ T.size) : T.size - (T.data.toList.drop p).length = p := by
  rw [List.length_drop, Array.length_toList]
  show T.size - (T.size - p) = p
  omega
end Go.Proofs.YtfibjcaidnofmaaGreatDoor
