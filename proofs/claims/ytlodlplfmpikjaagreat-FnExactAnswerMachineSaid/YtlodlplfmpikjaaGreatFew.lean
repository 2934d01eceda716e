/- Shapes: how many marks a value takes, set against its cost; facts for the walk of a law. Over any program. -/
import Derived.Test.YtlodlplfmpikjaaGreatShd
namespace Go.Proofs.YtlodlplfmpikjaaGreat
open Go.RowKit

section
variable {α β : Type} {s : Sh α} {s' : Sh β}
/-- A value takes at most a + c * cost marks. -/
structure Few (s : Sh α) (a c : Nat) : Prop where
  cnt : ∀ x, s.cnt x ≤ a + c * s.cost x
  top : ∀ x, s.cntTop x ≤ a + c * s.cost x
theorem few_one {enc : α → Value} {d : α} {m : Nat → α} {co : α → Nat} {h1 : ∀ x, (enc x).oneCell' = true} : Few (Sh.one enc d m co h1) 1 0 :=
  ⟨fun x => by show (1 : Nat) ≤ _; omega, fun x => Nat.zero_le _⟩
theorem few_prod {a c a' c' : Nat} (h : Few s a c) (h' : Few s' a' c') : Few (s.prod s') (a + a') (c + c') :=
  ⟨fun x => by
    have h1 := h.cnt x.1; have h2 := h'.cnt x.2
    show s.cnt x.1 + s'.cnt x.2 ≤ a + a' + (c + c') * (s.cost x.1 + s'.cost x.2)
    have e : (c + c') * (s.cost x.1 + s'.cost x.2) = c * s.cost x.1 + c * s'.cost x.2 + (c' * s.cost x.1 + c' * s'.cost x.2) := by rw [Nat.add_mul, Nat.mul_add, Nat.mul_add]
    rw [e]; omega, fun x => by
    have h1 := h.top x.1; have h2 := h'.top x.2
    show s.cntTop x.1 + s'.cntTop x.2 ≤ a + a' + (c + c') * (s.cost x.1 + s'.cost x.2)
    have e : (c + c') * (s.cost x.1 + s'.cost x.2) = c * s.cost x.1 + c * s'.cost x.2 + (c' * s.cost x.1 + c' * s'.cost x.2) := by rw [Nat.add_mul, Nat.mul_add, Nat.mul_add]
    rw [e]; omega⟩
theorem few_all {a c : Nat} (h : Few s a c) (xs : List α) : cntAll s xs ≤ (a + c) * costAll s xs := by
  unfold cntAll costAll
  induction xs with
  | nil => simp
  | cons x xs ih =>
    have h1 := h.cnt x
    simp only [List.map_cons, List.sum_cons, List.length_cons]
    have e : (a + c) * (xs.length + 1 + (s.cost x + (xs.map s.cost).sum)) = (a + c) * (xs.length + (xs.map s.cost).sum) + (a + c) * 1 + (a * s.cost x + c * s.cost x) := by
      rw [← Nat.add_mul, ← Nat.mul_add, ← Nat.mul_add]; congr 1; omega
    rw [e]; omega
theorem few_row {t : TypeId} {a c : Nat} (h : Few s a c) : Few (Sh.row t s) 0 (a + c) :=
  ⟨fun xs => by rw [Nat.zero_add]; exact few_all h xs, fun xs => by rw [Nat.zero_add]; exact few_all h xs⟩

theorem loc_sh (s : Sh α) (lo hi : Nat) (vs : List Value) (x : α) : Loc lo hi (fun W => s.R W lo hi vs x) := fun _ _ hk h => s.R_keep h hk
theorem loc_own (s : Sh α) (lo hi : Nat) (vs : List Value) (x : α) : Loc lo hi (fun W => Own s W lo hi vs x) := fun _ _ hk h => h.keep hk
theorem Within.of_out {F : List Nat} {w w' : World} {lo hi : Nat} (h : Out F w w') (hF : ∀ b ∈ F, lo ≤ b ∧ b < hi) : Within lo hi w w' :=
  ⟨h.os, h.tape, h.output, h.size, fun k hk hd => h.block k hk fun hm => by have := hF k hm; omega⟩
end

end Go.Proofs.YtlodlplfmpikjaaGreat
