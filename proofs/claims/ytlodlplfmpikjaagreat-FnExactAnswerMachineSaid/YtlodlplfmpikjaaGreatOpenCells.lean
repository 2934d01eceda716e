/- A field of a struct that came in; how many cells the plain types have. -/
import Derived.Test.YtlodlplfmpikjaaGreatOpen
namespace Go.Proofs.YtlodlplfmpikjaaGreat
open Go.ChangeShapes Go.WideShapes Go.ChangeAt Go.RowKit

theorem cells_int64 : Tryz.prog.cellsOf 2 = 1 := by kernel_rfl
theorem cells_string : Tryz.prog.cellsOf 9 = 1 := by kernel_rfl
theorem cells_strs : Tryz.prog.cellsOf 22 = 1 := by kernel_rfl

theorem field_of {H : Type} {enc : TypeId × Value → H} {P : Program} {w : World} {base : Nat} {spare : Nat → Bool} {held : Bool} {n : Nat} {cs : List Value} {xs : List (DataW H × List MemPlace)} {fs : Array Field} {l : List (TypeId × Nat)}
    (hl : fs.toList.map (fun f => (f.type, f.offset)) = l) (hx : xs.length = fs.size)
    (hg : ∀ (i : Nat) (f : Field), fs[i]? = some f → DataW.trod enc P w base spare held n f.type ((cs.drop f.offset).take (P.cellsOf f.type)) = xs[i]?) (i : Nat) (t : TypeId) (o : Nat) (hi : l[i]? = some (t, o)) :
    ∃ y, DataW.trod enc P w base spare held n t ((cs.drop o).take (P.cellsOf t)) = some y := by
  rw [← hl, List.getElem?_map] at hi
  cases hf : fs.toList[i]? with
  | none => rw [hf] at hi; cases hi
  | some f =>
    rw [hf] at hi
    simp only [Option.map_some, Option.some.injEq, Prod.mk.injEq] at hi
    obtain ⟨rfl, rfl⟩ := hi
    have hf' : fs[i]? = some f := by rw [← hf, Array.getElem?_toList]
    have := hg i f hf'
    have hlt : i < xs.length := by
      rw [hx]
      rcases Nat.lt_or_ge i fs.size with h | h
      · exact h
      · rw [Array.getElem?_eq_none h] at hf'; cases hf'
    exact ⟨_, this.trans (List.getElem?_eq_getElem hlt)⟩

end Go.Proofs.YtlodlplfmpikjaaGreat
