/- The reference's reader walked: text. -/
import Derived.Test.YtfibjcaidnofmaaGreatDoorJoinEXAp
import Derived.Test.YtfibjcaidnofmaaGreatDoorJoinEXAo
import Derived.Test.YtfibjcaidnofmaaGreatDoorJoinEXAl
namespace Go.Proofs.YtfibjcaidnofmaaGreatDoor
open Go.RowKit

theorem qS_sum : ∀ (n : Nat) (l : List UInt8), l.length ≤ n → (qS l).1.length + (qS l).2.length ≤ l.length
  | n, [], _ => by unfold qS; exact Nat.le_refl _
  | 0, _ :: _, h => absurd h (by simp)
  | n + 1, c :: l, h => by
    rw [List.length_cons] at h
    by_cases hc : c = 34
    · subst hc
      cases l with
      | nil => rw [qS_end [] (fun r e => by cases e)]; exact Nat.zero_le _
      | cons d r =>
        by_cases hd : d = 34
        · subst hd
          rw [List.length_cons] at h
          have := qS_sum n r (by omega)
          rw [qS_two]
          simp only [List.length_cons]; omega
        · rw [qS_end _ (fun z e => hd (by injection e))]
          simp only [List.length_cons, List.length_nil]; omega
    · have := qS_sum n l (by omega)
      rw [qS_plain c l hc]
      simp only [List.length_cons]; omega
/-- What a reading leaves is an end of the text. -/
theorem qS_place (T : ByteArray) (p : Nat) (hp : p ≤ T.size) : ∃ q, p ≤ q ∧ q ≤ T.size ∧ T.data.toList.drop q = (qS (T.data.toList.drop p)).2 := by
  have : ∀ (n : Nat) (l : List UInt8), l.length ≤ n → ∃ m, m ≤ l.length ∧ l.drop m = (qS l).2 := by
    intro n
    induction n with
    | zero => intro l h; obtain rfl := List.eq_nil_of_length_eq_zero (Nat.le_zero.1 h); exact ⟨0, Nat.zero_le _, rfl⟩
    | succ n ih =>
      intro l h
      cases l with
      | nil => exact ⟨0, Nat.zero_le _, rfl⟩
      | cons c l =>
        rw [List.length_cons] at h
        by_cases hc : c = 34
        · subst hc
          cases l with
          | nil => exact ⟨1, by simp, by rw [qS_end [] (fun r e => by cases e)]; rfl⟩
          | cons d r =>
            by_cases hd : d = 34
            · subst hd
              rw [List.length_cons] at h
              obtain ⟨m, h1, h2⟩ := ih r (by omega)
              exact ⟨m + 2, by simp only [List.length_cons]; omega, by rw [qS_two, List.drop_succ_cons, List.drop_succ_cons]; exact h2⟩
            · exact ⟨1, by simp, by rw [qS_end _ (fun z e => hd (by injection e))]; rfl⟩
        · obtain ⟨m, h1, h2⟩ := ih l (by omega)
          exact ⟨m + 1, by rw [List.length_cons]; omega, by rw [qS_plain c l hc, List.drop_succ_cons]; exact h2⟩
  obtain ⟨m, h1, h2⟩ := this _ (T.data.toList.drop p) (Nat.le_refl _)
  rw [List.length_drop, Array.length_toList] at h1
  have h1' : m ≤ T.size - p := h1
  exact ⟨p + m, by omega, by omega, by rw [← h2, List.drop_drop]⟩
end Go.Proofs.YtfibjcaidnofmaaGreatDoor

