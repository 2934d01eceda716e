/- The reference's ImportTree walked. -/
import Derived.Test.YtfibjcaidnofmaaGreatDoorJoinEOBl
namespace Go.Proofs.YtfibjcaidnofmaaGreatDoor
open Go.RowKit

/-- The address of a row of the call's own. -/
theorem own_addr {w : World} {lo hi : Nat} {A : Option Addr} {n c : Nat} {ts : List TyNode} (h : Own shTree w lo hi [.slice A n c] ts) : n = ts.length ∧ n ≤ c ∧ ((A = none ∧ n = 0 ∧ c = 0) ∨ ∃ b off, A = some ⟨b, off, none⟩) := by
  obtain ⟨F, ⟨A', c', cs, Fs, e, ho, _⟩, _⟩ := h
  injection e with e _
  injection e with e1 e2 e3
  subst e1 e3
  rcases ho.2 with ⟨e4, e5⟩ | ⟨g, cap, cur, e4, _, _, hn, _⟩
  · injection e4 with e4 e6 e7
    exact ⟨e2, by omega, .inl ⟨e4, by omega, e7⟩⟩
  · injection e4 with e4 e6 e7
    exact ⟨e2, by omega, .inr ⟨g, 0, e4⟩⟩
theorem own_row {w : World} {lo hi : Nat} {A : Option Addr} {c : Nat} {ts : List TyNode} (h : Own shTree w lo hi [.slice A ts.length c] ts) : RowG shNode w lo hi A ts := rowG_of_shape (t := 32) (c := c) h.reads
theorem importP_nil {l : List UInt8} (h : ¬ 60000 < l.length) (hl : (linesP l).1 = []) : importP l = (14, []) := by
  unfold importP
  rw [if_neg h, hl]
theorem importP_cons {l : List UInt8} (h : ¬ 60000 < l.length) {a : List UInt8} {L : List (List UInt8)} (hl : (linesP l).1 = a :: L) :
    (120 < manyP a → importP l = (4, [])) ∧ (¬ 120 < manyP a → (decide ((linesP l).2 = []) = false ∨ manyP a < 0 ∨ manyP a ≠ L.length) → importP l = (14, [])) ∧
    (¬ 120 < manyP a → decide ((linesP l).2 = []) = true → ¬ manyP a < 0 → manyP a = L.length → (readAll L = none → importP l = (14, [])) ∧ (∀ ns, readAll L = some ns → (insN ns).2 = true → importP l = (5, [])) ∧ (∀ ns, readAll L = some ns → (insN ns).2 = false → importP l = (0, (insN ns).1))) := by
  unfold importP
  rw [if_neg h, hl]
  refine ⟨fun h1 => if_pos h1, fun h1 h2 => ?_, fun h1 h2 h3 h4 => ?_⟩
  · show (if 120 < manyP a then _ else _) = _
    rw [if_neg h1, if_pos]
    rcases h2 with h2 | h2
    · exact .inl (of_decide_eq_false h2)
    · exact .inr h2
  · have e : ∀ X : Int × List Nod, (if 120 < manyP a then (4, []) else if (linesP l).2 ≠ [] ∨ manyP a < 0 ∨ manyP a ≠ L.length then (14, []) else X) = X := fun X => by
      rw [if_neg h1, if_neg]
      rintro (h5 | h5 | h5)
      · exact h5 (of_decide_eq_true h2)
      · exact h3 h5
      · exact h5 h4
    refine ⟨fun hr => (e _).trans (by rw [hr]), fun ns hr hi => (e _).trans (by rw [hr]; exact if_pos hi), fun ns hr hi => (e _).trans (by rw [hr]; exact if_neg (by rw [hi]; exact Bool.false_ne_true))⟩

end Go.Proofs.YtfibjcaidnofmaaGreatDoor

