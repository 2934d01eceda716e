/- The reference's ReadLine walked. -/
import Derived.Test.YtcjaaknnfohllaaGreatDoorRdlP
import Derived.Test.YtcjaaknnfohllaaGreatDoorScnV
namespace Go.Proofs.YtcjaaknnfohllaaGreatDoor
open Go.RowKit

theorem tS_place (T : ByteArray) : ∀ (f p : Nat), p ≤ T.size → ∃ q, p ≤ q ∧ q ≤ T.size ∧ T.data.toList.drop q = (tS f (T.data.toList.drop p)).2
  | 0, p, hp => ⟨p, Nat.le_refl _, hp, rfl⟩
  | f + 1, p, hp => by
    have tail : ∀ (a : List UInt8) (m : Nat), p ≤ m → m ≤ T.size → ∃ q, p ≤ q ∧ q ≤ T.size ∧ T.data.toList.drop q = (tT f (a, T.data.toList.drop m)).2 := by
      intro a m h1 h2
      by_cases h95 : ∃ r, T.data.toList.drop m = 95 :: r
      · obtain ⟨r, hr⟩ := h95
        have hm : m < T.size := by
          rcases Nat.lt_or_ge m T.size with h' | h'
          · exact h'
          · rw [List.drop_of_length_le (by rw [Array.length_toList]; exact h')] at hr; cases hr
        have hr2 := drop_at T m hm
        rw [hr] at hr2
        injection hr2 with _ e2
        obtain ⟨q, q1, q2, q3⟩ := tS_place T f (m + 1) hm
        refine ⟨q, by omega, q2, ?_⟩
        rw [hr, tT_more, e2]
        exact q3
      · exact ⟨m, h1, h2, by rw [tT_stop f a _ (fun r e => h95 ⟨r, e⟩)]⟩
    cases h : [34].isPrefixOf (T.data.toList.drop p)
    · cases h2 : [36, 67, 40].isPrefixOf (T.data.toList.drop p)
      · rw [tS_n f _ h h2]
        refine ⟨p + ((T.data.toList.drop p).takeWhile numCh).length, by omega, ?_, ?_⟩
        · have h3 := congrArg List.length (List.takeWhile_append_dropWhile (p := numCh) (l := T.data.toList.drop p))
          rw [List.length_append, List.length_drop, Array.length_toList] at h3
          have h4 : ((T.data.toList.drop p).takeWhile numCh).length + ((T.data.toList.drop p).dropWhile numCh).length = T.size - p := h3
          omega
        · rw [← List.drop_drop]
          have h3 := List.takeWhile_append_dropWhile (p := numCh) (l := T.data.toList.drop p)
          generalize (T.data.toList.drop p).takeWhile numCh = A at *
          show List.drop A.length (List.drop p T.data.toList) = (T.data.toList.drop p).dropWhile numCh
          generalize (T.data.toList.drop p).dropWhile numCh = B at *
          rw [← h3, List.drop_left]
      · rw [tS_c f _ h h2]
        have hp3 := pre_place T p _ h2 hp
        obtain ⟨m, m1, m2, m3⟩ := cS_place T (T.data.toList.drop p).length (p + 3) hp3
        rw [List.drop_drop]
        obtain ⟨q, hq⟩ := tail (cS (T.data.toList.drop p).length (T.data.toList.drop (p + 3))).1 m (by omega) m2
        refine ⟨q, hq.1, hq.2.1, ?_⟩
        rw [hq.2.2, m3]
    · rw [tS_q f _ h]
      have hp1 := pre_place T p _ h hp
      obtain ⟨m, m1, m2, m3⟩ := qS_place T (p + 1) hp1
      rw [List.drop_drop]
      obtain ⟨q, hq⟩ := tail (qS (T.data.toList.drop (p + 1))).1 m (by omega) m2
      refine ⟨q, hq.1, hq.2.1, ?_⟩
      rw [hq.2.2, m3]

theorem tS_len : ∀ (f : Nat) (l : List UInt8), (tS f l).1.length ≤ 2 * l.length
  | 0, l => Nat.zero_le _
  | f + 1, l => by
    have tail : ∀ (a m : List UInt8), a.length + m.length ≤ l.length → (tT f (a, m)).1.length ≤ 2 * l.length := by
      intro a m h1
      by_cases h95 : ∃ r, m = 95 :: r
      · obtain ⟨r, rfl⟩ := h95
        rw [tT_more, List.length_append]
        have := tS_len f r
        rw [List.length_cons] at h1
        omega
      · rw [tT_stop f a _ (fun r e => h95 ⟨r, e⟩)]
        show a.length ≤ _
        omega
    cases h : [34].isPrefixOf l
    · cases h2 : [36, 67, 40].isPrefixOf l
      · rw [tS_n f _ h h2]
        have := (List.takeWhile_sublist numCh (l := l)).length_le
        show (l.takeWhile numCh).length ≤ _
        omega
      · rw [tS_c f _ h h2]
        have h3 := cS_sum l.length (l.drop 3)
        have h4 := (List.isPrefixOf_iff_prefix.1 h2).length_le
        rw [List.length_drop] at h3
        simp only [List.length_cons, List.length_nil] at h4
        exact tail _ _ (by omega)
    · rw [tS_q f _ h]
      have h3 := qS_sum _ (l.drop 1) (Nat.le_refl _)
      rw [List.length_drop] at h3
      exact tail _ _ (by omega)

theorem textS_at (B : Nat) (T : ByteArray) (a f : Nat) (ha : a ≤ T.size) (hf : T.size - a < f) (hT : T.size ≤ 1048576) (w : World) (hB : RdAt w B T a) :
    ∃ q, a ≤ q ∧ q ≤ T.size ∧ T.data.toList.drop q = (tS f (T.data.toList.drop a)).2 ∧ (tS f (T.data.toList.drop a)).1.length ≤ 2 * T.size ∧
      Calls Tryz.prog 41 #[.pointer (some ⟨B, 0, none⟩)] w fun e w' => e = .returned (.string (mkB (tS f (T.data.toList.drop a)).1)) ∧ RdAt w' B T q ∧ Within B (B + 1) w w' := by
  obtain ⟨q, h1, h2, h3⟩ := tS_place T f a ha
  have hc := textS_any B T a f ha hf hT w hB
  have hlen : T.size - (tS f (T.data.toList.drop a)).2.length = q := by rw [← h3, len_at T q h2]
  rw [hlen] at hc
  refine ⟨q, h1, h2, h3, ?_, hc.mono fun e w' ⟨e1, e2, e3, _⟩ => ⟨e1, e2, e3⟩⟩
  have h4 := tS_len f (T.data.toList.drop a)
  rw [List.length_drop, Array.length_toList] at h4
  have h5 : (tS f (T.data.toList.drop a)).1.length ≤ 2 * (T.size - a) := h4
  omega

/-- One byte asked for: where the reader stands behind it. -/
theorem more_at (B : Nat) (T : ByteArray) (c : UInt8) (a : Nat) (ha : a ≤ T.size) (hT : T.size ≤ 1048576) (w : World) (hB : RdAt w B T a) :
    ∃ q, a ≤ q ∧ q ≤ T.size ∧ T.data.toList.drop q = dropH c (T.data.toList.drop a) ∧ ([c].isPrefixOf (T.data.toList.drop a) = true → q = a + 1) ∧
      Calls Tryz.prog 40 #[.pointer (some ⟨B, 0, none⟩), .string ⟨#[c]⟩] w fun e w' => e = .returned (.bool ([c].isPrefixOf (T.data.toList.drop a))) ∧ RdAt w' B T q ∧ Within B (B + 1) w w' := by
  have hm := more_any B T ⟨#[c]⟩ a ha hT (by show 1 ≤ 8; omega) w hB
  have he : (⟨#[c]⟩ : ByteArray).data.toList = [c] := rfl
  rw [he] at hm
  cases hc : [c].isPrefixOf (T.data.toList.drop a)
  · rw [hc, if_neg (by decide)] at hm
    refine ⟨a, Nat.le_refl _, ha, ?_, fun h => absurd h Bool.false_ne_true, hm⟩
    rw [dropH_no c _ (fun r e => by rw [(one_pre c _).2 ⟨r, e⟩] at hc; cases hc)]
  · rw [hc, if_pos rfl] at hm
    have h1 := pre_place T a _ hc ha
    obtain ⟨r, hr⟩ := (one_pre c _).1 hc
    have h2 := drop_at T a h1
    rw [hr] at h2
    injection h2 with _ e2
    refine ⟨a + 1, by omega, h1, ?_, fun _ => rfl, hm⟩
    rw [hr, dropH_yes, e2]

/-- What stands behind the name: the subscripts, and what is left ahead of the value. -/
def rlR (T : List UInt8) : List ByteArray × List UInt8 :=
  if [40].isPrefixOf ((dropH 94 T).dropWhile nmCh) then ((subsS (T.length + 1) (T.length + 1) (((dropH 94 T).dropWhile nmCh).drop 1)).1, dropH 41 (subsS (T.length + 1) (T.length + 1) (((dropH 94 T).dropWhile nmCh).drop 1)).2)
  else ([], (dropH 94 T).dropWhile nmCh)
theorem rlS_R (T : List UInt8) : rlS T = ⟨mkB ((dropH 94 T).takeWhile nmCh), (rlR T).1, mkB (tS (T.length + 1) (dropH 61 (rlR T).2)).1⟩ := by
  unfold rlS rlR
  split <;> rfl
/-- Behind a subscript: a comma and more, or the end. -/
def sT (F f : Nat) (l : List UInt8) : List ByteArray × List UInt8 := if [44].isPrefixOf l then subsS F f (l.drop 1) else ([], l)
theorem subsS_step (F f : Nat) (l : List UInt8) : subsS F (f + 1) l = (mkB (tS F l).1 :: (sT F f (tS F l).2).1, (sT F f (tS F l).2).2) := by
  unfold sT
  rw [subsS]
  split <;> rfl
end Go.Proofs.YtcjaaknnfohllaaGreatDoor
