/- Shapes: stores behind what is owned; a row filled element by element from what a call gave. -/
import Derived.Test.YtlodlplfmpikjaaGreatShc
import Derived.StillTailTactics
namespace Go.Proofs.YtlodlplfmpikjaaGreat
open Go.RowKit

section
variable {α : Type} {s : Sh α} {w W : World} {lo hi : Nat} {vs : List Value} {x : α}
theorem Own.setCell (h : Own s w lo hi vs x) {p : Addr} (hp : p.block < lo) (u : Value) : Own s (w.setCell p u) lo hi vs x := h.above ((Above.refl lo w).setCell hp u) (Nat.le_refl _)

theorem Fill.addM {t : TypeId} {g : Nat} {cs : Array Value} {Fs : Nat → List Nat} {xs : List α} {j : Nat} (h : Fill s t w g cs Fs xs j) (hj : j < xs.length) (hm : Mid [g] g t cs (j * s.k) s.k w W vs) (hlo : w.heap.size ≤ lo) (ho : Own s W lo hi vs (xs.getD j s.d)) :
    ∃ cs' Fs', Fill s t W g cs' Fs' xs (j + 1) := by
  obtain ⟨⟨cs', h1, h2⟩, h3⟩ := hm
  obtain ⟨Fs', hf⟩ := h.add hj hlo ho h1 h2 fun b hb hne => h3.block b hb (by simp [hne])
  exact ⟨cs', Fs', hf⟩
theorem Fill.room {t : TypeId} {g : Nat} {cs : Array Value} {Fs : Nat → List Nat} {xs : List α} {j : Nat} (h : Fill s t w g cs Fs xs j) (hj : j < xs.length) : j * s.k + s.k ≤ cs.size := by
  have h1 : (j + 1) * s.k ≤ xs.length * s.k := Nat.mul_le_mul_right _ hj
  rw [Nat.add_mul] at h1
  rw [h.size]; omega
theorem Out.alloc_ (F : List Nat) (w : World) (o : Obj) : Out F w (w.alloc o) := (Out.refl F w).below ((Below.refl w.heap.size w).alloc (Nat.le_refl _) o)
theorem Blk.out_ {w w' : World} {g : Nat} {t : TypeId} {cs : Array Value} {F : List Nat} (h : Blk w g t cs) (ho : Out F w w') (hg : g ∉ F) : Blk w' g t cs := (ho.block g h.lt hg).trans h
end

end Go.Proofs.YtlodlplfmpikjaaGreat
