/- The library's stable sort, in plain words: what symMerge, rotate and their loops owe each other. No program in sight. -/
import Derived.Sort.LotA
import Derived.Test.YtfibjcaidnofmaaGreatDoorJoinEXAm
namespace Go.Proofs.YtfibjcaidnofmaaGreatDoor
open Go.Sort

section
variable {α : Type} [Inhabited α] {lt : α → α → Bool}

/-- One element moved up into a sorted run. -/
theorem merge_left (hS : SWO lt) {a b i : Nat} {d d' : Array α} (hs : SortedIn lt (a + 1) b d) (hai : a + 1 ≤ i) (hib : i ≤ b)
    (hlo : ∀ k, a + 1 ≤ k → k < i → lt d[k]! d[a]! = true) (hhi : ∀ k, i ≤ k → k < b → lt d[k]! d[a]! = false)
    (h1 : ∀ k, a ≤ k → k + 1 < i → d'[k]! = d[k + 1]!) (h2 : d'[i - 1]! = d[a]!) (h3 : ∀ k, i ≤ k → k < b → d'[k]! = d[k]!) : SortedIn lt a b d' := by
  intro p q hap hpq hqb
  by_cases hq1 : q + 1 < i
  · rw [h1 q (by omega) hq1, h1 p hap (by omega)]
    exact hs (p + 1) (q + 1) (by omega) (by omega) (by omega)
  · by_cases hq2 : q < i
    · obtain rfl : q = i - 1 := by omega
      rw [h2, h1 p hap (by omega)]
      exact hS.asymmA (hlo (p + 1) (by omega) (by omega))
    · rw [h3 q (by omega) hqb]
      by_cases hp1 : p + 1 < i
      · rw [h1 p hap hp1]
        exact hs (p + 1) q (by omega) (by omega) hqb
      · by_cases hp2 : p < i
        · obtain rfl : p = i - 1 := by omega
          rw [h2]
          exact hhi q (by omega) hqb
        · rw [h3 p (by omega) (by omega)]
          exact hs p q (by omega) hpq hqb

/-- One element moved down into a sorted run. -/
theorem merge_right (hS : SWO lt) {a m i : Nat} {d d' : Array α} (hs : SortedIn lt a m d) (hai : a ≤ i) (him : i ≤ m)
    (hlo : ∀ k, a ≤ k → k < i → lt d[m]! d[k]! = false) (hhi : ∀ k, i ≤ k → k < m → lt d[m]! d[k]! = true)
    (h1 : ∀ k, a ≤ k → k < i → d'[k]! = d[k]!) (h2 : d'[i]! = d[m]!) (h3 : ∀ k, i ≤ k → k < m → d'[k + 1]! = d[k]!) : SortedIn lt a (m + 1) d' := by
  intro p q hap hpq hqb
  by_cases hq1 : q < i
  · rw [h1 q (by omega) hq1, h1 p hap (by omega)]
    exact hs p q hap hpq (by omega)
  · by_cases hq2 : q = i
    · subst hq2
      rw [h2, h1 p hap hpq]
      exact hlo p hap hpq
    · obtain ⟨q', rfl⟩ : ∃ q', q = q' + 1 := ⟨q - 1, by omega⟩
      rw [h3 q' (by omega) (by omega)]
      by_cases hp1 : p < i
      · rw [h1 p hap hp1]
        exact hs p q' hap (by omega) (by omega)
      · by_cases hp2 : p = i
        · subst hp2
          rw [h2]
          exact hS.asymmA (hhi q' (by omega) (by omega))
        · obtain ⟨p', rfl⟩ : ∃ p', p = p' + 1 := ⟨p - 1, by omega⟩
          rw [h3 p' (by omega) (by omega)]
          exact hs p' q' (by omega) (by omega) (by omega)

/-- What the search of symMerge knows at the end: up to s the mirror image is not less, from s on it is. -/
structure Cut (lt : α → α → Bool) (d : Array α) (a m b mid s : Nat) : Prop where
  lo : ∀ c, (if mid < m then mid + m - b else a) ≤ c → c < s → lt d[mid + m - 1 - c]! d[c]! = false
  hi : ∀ c, s ≤ c → c < (if mid < m then mid else m) → lt d[mid + m - 1 - c]! d[c]! = true
  ge : (if mid < m then mid + m - b else a) ≤ s
  le : s ≤ (if mid < m then mid else m)

/-- The mirror images fall as the places rise. -/
theorem cut_mono (hS : SWO lt) {a m b mid : Nat} {d : Array α} (h1 : SortedIn lt a m d) (h2 : SortedIn lt m b d) (hmid : mid = (a + b) / 2) (ham : a < m) (hmb : m < b)
    {c c' : Nat} (hc : (if mid < m then mid + m - b else a) ≤ c) (hcc : c < c') (hc' : c' < (if mid < m then mid else m)) :
    (lt d[mid + m - 1 - c]! d[c]! = true → lt d[mid + m - 1 - c']! d[c']! = true) := by
  intro ht
  have e1 : lt d[c']! d[c]! = false := h1 c c' (by split at hc <;> omega) hcc (by split at hc' <;> omega)
  have e2 : lt d[mid + m - 1 - c]! d[mid + m - 1 - c']! = false := h2 (mid + m - 1 - c') (mid + m - 1 - c) (by split at hc' <;> omega) (by split at hc' <;> omega) (by split at hc <;> omega)
  cases hx : lt d[mid + m - 1 - c']! d[c']! with
  | true => rfl
  | false =>
    have e3 := hS.ntrans _ _ _ e2 (hS.ntrans _ _ _ hx e1)
    rw [e3] at ht; cases ht

/-- Behind the rotation: four sorted runs, and nothing on the right is less than anything on the left. -/
theorem sym_step (hS : SWO lt) {a m b mid s e : Nat} {d d1 : Array α} (h1 : SortedIn lt a m d) (h2 : SortedIn lt m b d) (hmid : mid = (a + b) / 2) (ham : a < m) (hmb : m < b)
    (hc : Cut lt d a m b mid s) (he : e = mid + m - s)
    (r0 : ∀ k, k < s ∨ e ≤ k → d1[k]! = d[k]!) (r1 : ∀ k, s ≤ k → k < mid → d1[k]! = d[k + (m - s)]!) (r2 : ∀ k, mid ≤ k → k < e → d1[k]! = d[k - (e - m)]!) :
    (a ≤ s ∧ s ≤ mid ∧ mid ≤ e ∧ e ≤ b ∧ s ≤ m ∧ m ≤ e) ∧ SortedIn lt a s d1 ∧ SortedIn lt s mid d1 ∧ SortedIn lt mid e d1 ∧ SortedIn lt e b d1 ∧ ∀ i j, a ≤ i → i < mid → mid ≤ j → j < b → lt d1[j]! d1[i]! = false := by
  have hge := hc.ge
  have hle := hc.le
  have B : a ≤ s ∧ s ≤ mid ∧ mid ≤ e ∧ e ≤ b ∧ s ≤ m ∧ m ≤ e := by split at hge <;> split at hle <;> omega
  obtain ⟨b1, b2, b3, b4, b5, b6⟩ := B
  refine ⟨⟨b1, b2, b3, b4, b5, b6⟩, ?_, ?_, ?_, ?_, ?_⟩
  · intro p q hp hpq hq
    rw [r0 p (by omega), r0 q (by omega)]
    exact h1 p q hp hpq (by omega)
  · intro p q hp hpq hq
    rw [r1 p hp (by omega), r1 q (by omega) hq]
    exact h2 _ _ (by omega) (by omega) (by omega)
  · intro p q hp hpq hq
    rw [r2 p hp (by omega), r2 q (by omega) hq]
    exact h1 _ _ (by omega) (by omega) (by omega)
  · intro p q hp hpq hq
    rw [r0 p (by omega), r0 q (by omega)]
    exact h2 p q (by omega) hpq hq
  · intro i j hi1 hi2 hj1 hj2
    have LaRb : ∀ k1 k2, a ≤ k1 → k1 < s → e ≤ k2 → k2 < b → lt d[k2]! d[k1]! = false := by
      intro k1 k2 q1 q2 q3 q4
      have f := hc.lo (s - 1) (by split at hge <;> split <;> omega) (by omega)
      rw [show mid + m - 1 - (s - 1) = e by omega] at f
      have g1 : lt d[k2]! d[e]! = false := by
        rcases Nat.lt_or_ge e k2 with h | h
        · exact h2 e k2 (by omega) h q4
        · obtain rfl : k2 = e := by omega
          exact hS.irrefl _
      have g2 : lt d[s - 1]! d[k1]! = false := by
        rcases Nat.lt_or_ge k1 (s - 1) with h | h
        · exact h1 k1 (s - 1) q1 h (by omega)
        · obtain rfl : k1 = s - 1 := by omega
          exact hS.irrefl _
      exact hS.ntrans _ _ _ g1 (hS.ntrans _ _ _ f g2)
    have LbRa : ∀ k1 k2, m ≤ k1 → k1 < e → s ≤ k2 → k2 < m → lt d[k2]! d[k1]! = false := by
      intro k1 k2 q1 q2 q3 q4
      have f := hc.hi s (Nat.le_refl _) (by split at hle <;> split <;> omega)
      rw [show mid + m - 1 - s = e - 1 by omega] at f
      have f' := hS.asymmA f
      have g1 : lt d[k2]! d[s]! = false := by
        rcases Nat.lt_or_ge s k2 with h | h
        · exact h1 s k2 b1 h q4
        · obtain rfl : k2 = s := by omega
          exact hS.irrefl _
      have g2 : lt d[e - 1]! d[k1]! = false := by
        rcases Nat.lt_or_ge k1 (e - 1) with h | h
        · exact h2 k1 (e - 1) q1 h (by omega)
        · obtain rfl : k1 = e - 1 := by omega
          exact hS.irrefl _
      exact hS.ntrans _ _ _ g1 (hS.ntrans _ _ _ f' g2)
    by_cases hi3 : i < s
    · rw [r0 i (by omega)]
      by_cases hj3 : j < e
      · rw [r2 j hj1 hj3]
        exact h1 _ _ hi1 (by omega) (by omega)
      · rw [r0 j (by omega)]
        exact LaRb i j hi1 hi3 (by omega) hj2
    · rw [r1 i (by omega) hi2]
      by_cases hj3 : j < e
      · rw [r2 j hj1 hj3]
        exact LbRa _ _ (by omega) (by omega) (by omega) (by omega)
      · rw [r0 j (by omega)]
        exact h2 _ _ (by omega) (by omega) hj2

/-- Both halves sorted, nothing on the right less than anything on the left. -/
theorem sorted_halves {a mid b : Nat} {d : Array α} (h1 : SortedIn lt a mid d) (h2 : SortedIn lt mid b d) (hx : ∀ i j, a ≤ i → i < mid → mid ≤ j → j < b → lt d[j]! d[i]! = false) : SortedIn lt a b d := by
  intro p q hp hpq hq
  by_cases h : q < mid
  · exact h1 p q hp hpq h
  · by_cases h' : p < mid
    · exact hx p q hp h' (by omega) hq
    · exact h2 p q (by omega) hpq hq
theorem cross_perm {a mid b : Nat} {d d' : Array α} (_ : a ≤ mid) (_ : mid ≤ b) (hb : b ≤ d.size) (hx : ∀ i j, a ≤ i → i < mid → mid ≤ j → j < b → lt d[j]! d[i]! = false) (h : PermIn a mid d d' ∨ PermIn mid b d d') :
    ∀ i j, a ≤ i → i < mid → mid ≤ j → j < b → lt d'[j]! d'[i]! = false := by
  intro i j hi1 hi2 hj1 hj2
  rcases h with h | h
  · rw [h.2.1 j (by omega)]
    exact permIn_all d d' a mid (fun x => lt d[j]! x = false) (by omega) h (fun k h1 h2 => hx k j h1 h2 hj1 hj2) i hi1 hi2
  · rw [h.2.1 i (by omega)]
    exact permIn_all d d' mid b (fun x => lt x d[i]! = false) (by omega) h (fun k h1 h2 => hx i k hi1 hi2 h1 h2) j hj1 hj2
theorem sorted_far {a b a' b' : Nat} {d d' : Array α} (h : SortedIn lt a b d) (hp : PermIn a' b' d d') (hd : b ≤ a' ∨ b' ≤ a) : SortedIn lt a b d' := by
  intro p q h1 h2 h3
  rw [hp.2.1 p (by omega), hp.2.1 q (by omega)]
  exact h p q h1 h2 h3
theorem permIn_more {a b a' b' : Nat} {d d' : Array α} (h : PermIn a b d d') (h1 : a' ≤ a) (h2 : b ≤ b') (h3 : b' ≤ d.size) : PermIn a' b' d d' := permIn_mono d d' a b a' b' h1 h2 h3 h

/-! ### rotate: two neighbouring blocks exchanged -/

/-- d is what the blocks of length i before m and j behind it give once exchanged, where the goal is t. -/
structure Rot (a m b i j : Nat) (t : Nat → α) (d : Array α) : Prop where
  ia : a + i ≤ m
  ai : a ≤ m
  jb : m + j ≤ b
  far : ∀ k, k < m - i ∨ m + j ≤ k → d[k]! = t k
  left : ∀ k, m - i ≤ k → k < m - i + j → t k = d[k + i]!
  right : ∀ k, m - i + j ≤ k → k < m + j → t k = d[k - j]!
theorem rot_left {a m b i j : Nat} {t : Nat → α} {d d' : Array α} (h : Rot a m b i j t d) (hij : j < i)
    (h1 : ∀ k, k < j → d'[m - i + k]! = d[m + k]! ∧ d'[m + k]! = d[m - i + k]!) (h2 : ∀ k, (k < m - i ∨ m - i + j ≤ k) → (k < m ∨ m + j ≤ k) → d'[k]! = d[k]!) : Rot a m b (i - j) j t d' := by
  obtain ⟨ia, ai, jb, far, left, right⟩ := h
  refine ⟨by omega, ai, jb, fun k hk => ?_, fun k hk1 hk2 => ?_, fun k hk1 hk2 => ?_⟩
  · by_cases hk' : k < m - i ∨ m + j ≤ k
    · rw [h2 k (by omega) (by omega)]; exact far k hk'
    · have e : k = m - i + (k - (m - i)) := by omega
      rw [left k (by omega) (by omega), e, (h1 (k - (m - i)) (by omega)).1]
      congr 1; omega
  · rw [right k (by omega) (by omega), show k + (i - j) = m + (k + (i - j) - m) by omega, (h1 (k + (i - j) - m) (by omega)).2]
    congr 1; omega
  · rw [right k (by omega) hk2, h2 (k - j) (by omega) (by omega)]
theorem rot_right {a m b i j : Nat} {t : Nat → α} {d d' : Array α} (h : Rot a m b i j t d) (hij : i < j)
    (h1 : ∀ k, k < i → d'[m - i + k]! = d[m + j - i + k]! ∧ d'[m + j - i + k]! = d[m - i + k]!) (h2 : ∀ k, (k < m - i ∨ m ≤ k) → (k < m + j - i ∨ m + j ≤ k) → d'[k]! = d[k]!) : Rot a m b i (j - i) t d' := by
  obtain ⟨ia, ai, jb, far, left, right⟩ := h
  refine ⟨ia, ai, by omega, fun k hk => ?_, fun k hk1 hk2 => ?_, fun k hk1 hk2 => ?_⟩
  · by_cases hk' : k < m - i ∨ m + j ≤ k
    · rw [h2 k (by omega) (by omega)]; exact far k hk'
    · have e : k = m + j - i + (k - (m + j - i)) := by omega
      rw [right k (by omega) (by omega), e, (h1 (k - (m + j - i)) (by omega)).2]
      congr 1; omega
  · rw [left k hk1 (by omega), h2 (k + i) (by omega) (by omega)]
  · by_cases hk : k < m - i + j
    · rw [left k (by omega) hk, show k - (j - i) = m - i + (k - (j - i) - (m - i)) by omega, (h1 (k - (j - i) - (m - i)) (by omega)).1]
      congr 1; omega
    · exact absurd hk2 (by omega)
theorem rot_end {a m b i : Nat} {t : Nat → α} {d d' : Array α} (h : Rot a m b i i t d) (h1 : ∀ k, k < i → d'[m - i + k]! = d[m + k]! ∧ d'[m + k]! = d[m - i + k]!)
    (h2 : ∀ k, (k < m - i ∨ m ≤ k) → (k < m ∨ m + i ≤ k) → d'[k]! = d[k]!) (k : Nat) : d'[k]! = t k := by
  obtain ⟨ia, ai, jb, far, left, right⟩ := h
  by_cases hk1 : k < m - i ∨ m + i ≤ k
  · rw [h2 k (by omega) (by omega)]; exact far k hk1
  · by_cases hk2 : k < m
    · rw [left k (by omega) (by omega), show k = m - i + (k - (m - i)) by omega, (h1 (k - (m - i)) (by omega)).1]
      congr 1; omega
    · rw [right k (by omega) (by omega), show k = m + (k - m) by omega, (h1 (k - m) (by omega)).2]
      congr 1; omega
/-- What rotate owes: the blocks a..m and m..b exchanged. -/
def rotT (a m b : Nat) (d : Array α) (k : Nat) : α := if k < a ∨ b ≤ k then d[k]! else if k < a + (b - m) then d[k + (m - a)]! else d[k - (b - m)]!
theorem rot_start {a m b : Nat} (d : Array α) (ham : a ≤ m) (hmb : m ≤ b) : Rot a m b (m - a) (b - m) (rotT a m b d) d := by
  refine ⟨by omega, ham, by omega, fun k hk => ?_, fun k h1 h2 => ?_, fun k h1 h2 => ?_⟩
  · unfold rotT; rw [if_pos (by omega)]
  · unfold rotT; rw [if_neg (by omega), if_pos (by omega)]
  · unfold rotT; rw [if_neg (by omega), if_neg (by omega)]
/-- The mirror image's search halves its field. -/
theorem Cut.intro {a m b mid s : Nat} {d : Array α} (h1 : ∀ c, (if mid < m then mid + m - b else a) ≤ c → c < s → lt d[mid + m - 1 - c]! d[c]! = false)
    (h2 : ∀ c, s ≤ c → c < (if mid < m then mid else m) → lt d[mid + m - 1 - c]! d[c]! = true) (h3 : (if mid < m then mid + m - b else a) ≤ s) (h4 : s ≤ (if mid < m then mid else m)) : Cut lt d a m b mid s := ⟨h1, h2, h3, h4⟩
end

end Go.Proofs.YtfibjcaidnofmaaGreatDoor

/- The orders of texts, lists of texts and places are total. No program in sight. -/
namespace Go.Proofs.YtfibjcaidnofmaaGreatDoor

/-- A strict order in which two that neither comes before the other are one. -/
structure Sto {α : Type} (lt : α → α → Bool) : Prop where
  irrefl : ∀ x, lt x x = false
  trans : ∀ x y z, lt x y = true → lt y z = true → lt x z = true
  tri : ∀ x y, lt x y = false → lt y x = false → x = y
theorem Sto.asymm {α : Type} {lt : α → α → Bool} (h : Sto lt) {x y : α} (hxy : lt x y = true) : lt y x = false := by
  cases hyx : lt y x with
  | false => rfl
  | true => have := h.trans x y x hxy hyx; rw [h.irrefl] at this; cases this
theorem Sto.swo {α : Type} {lt : α → α → Bool} (h : Sto lt) : Go.Sort.SWO lt where
  irrefl := h.irrefl
  trans := h.trans
  ntrans := fun x y z h1 h2 => by
    cases hxz : lt x z with
    | false => rfl
    | true =>
      cases hyx : lt y x with
      | true => have := h.trans y x z hyx hxz; rw [h2] at this; cases this
      | false => have := h.tri x y h1 hyx; subst this; rw [h2] at hxz; cases hxz

theorem less_trans : ∀ x y z : List UInt8, Op.bytesLess x y = true → Op.bytesLess y z = true → Op.bytesLess x z = true
  | [], [], _, h1, _ => by simp [Op.bytesLess] at h1
  | [], b :: y, [], _, h2 => by simp [Op.bytesLess] at h2
  | [], b :: y, c :: z, _, _ => by simp [Op.bytesLess]
  | a :: x, [], _, h1, _ => by simp [Op.bytesLess] at h1
  | a :: x, b :: y, [], _, h2 => by simp [Op.bytesLess] at h2
  | a :: x, b :: y, c :: z, h1, h2 => by
    unfold Op.bytesLess at h1 h2 ⊢
    simp only [Bool.or_eq_true, Bool.and_eq_true, decide_eq_true_eq, beq_iff_eq] at h1 h2 ⊢
    rcases h1 with h1 | ⟨rfl, h1⟩
    · rcases h2 with h2 | ⟨rfl, h2⟩
      · exact .inl (UInt8.lt_trans h1 h2)
      · exact .inl h1
    · rcases h2 with h2 | ⟨rfl, h2⟩
      · exact .inl h2
      · exact .inr ⟨rfl, less_trans x y z h1 h2⟩
theorem less_tri : ∀ x y : List UInt8, Op.bytesLess x y = false → Op.bytesLess y x = false → x = y
  | [], [], _, _ => rfl
  | [], b :: y, h1, _ => by simp [Op.bytesLess] at h1
  | a :: x, [], _, h2 => by simp [Op.bytesLess] at h2
  | a :: x, b :: y, h1, h2 => by
    unfold Op.bytesLess at h1 h2
    simp only [Bool.or_eq_false_iff, Bool.and_eq_false_iff, decide_eq_false_iff_not, beq_eq_false_iff_ne] at h1 h2
    have e : a = b := by
      have h3 := h1.1; have h4 := h2.1
      rw [UInt8.not_lt] at h3 h4
      exact UInt8.le_antisymm h4 h3
    subst e
    have h3 := h1.2.resolve_left (fun h => h rfl)
    have h4 := h2.2.resolve_left (fun h => h rfl)
    rw [less_tri x y h3 h4]
theorem sto_ltT : Sto ltT where
  irrefl := ltT_irrefl
  trans x y z := less_trans _ _ _
  tri x y h1 h2 := by
    have := less_tri _ _ h1 h2
    exact (eqT_iff x y).1 (by unfold eqT; rw [this]; simp)

theorem sto_befT : Sto befT where
  irrefl x := by
    unfold befT
    cases canT x <;> simp [ltT_irrefl]
  trans x y z h1 h2 := by
    unfold befT at h1 h2 ⊢
    cases hx : canT x <;> cases hy : canT y <;> cases hz : canT z <;> simp_all
    · exact sto_ltT.trans x y z h1 h2
    · omega
  tri x y h1 h2 := by
    unfold befT at h1 h2
    cases hx : canT x <;> cases hy : canT y <;> simp_all
    · exact sto_ltT.tri x y h1 h2
    · exact canT_inj hx hy (by omega)

theorem befSubs_irrefl : ∀ x, befSubs x x = false
  | [] => rfl
  | a :: x => by unfold befSubs; rw [if_pos rfl]; exact befSubs_irrefl x
theorem befSubs_nil (y : List ByteArray) : befSubs [] y = decide (0 < y.length) := by cases y <;> rfl
theorem befSubs_nil' (x : List ByteArray) : befSubs x [] = false := by
  cases x with
  | nil => rfl
  | cons a x => show decide (_ + 1 < 0) = false; exact decide_eq_false (by omega)
theorem befSubs_trans : ∀ x y z, befSubs x y = true → befSubs y z = true → befSubs x z = true
  | _, [], _, h1, _ => by rw [befSubs_nil'] at h1; cases h1
  | _, _ :: _, [], _, h2 => by rw [befSubs_nil'] at h2; cases h2
  | [], b :: y, c :: z, _, _ => by rw [befSubs_nil]; simp
  | a :: x, b :: y, c :: z, h1, h2 => by
    unfold befSubs at h1 h2 ⊢
    by_cases e1 : a = b
    · subst e1
      rw [if_pos rfl] at h1
      by_cases e2 : a = c
      · subst e2
        rw [if_pos rfl] at h2 ⊢
        exact befSubs_trans x y z h1 h2
      · rw [if_neg e2] at h2 ⊢; exact h2
    · rw [if_neg e1] at h1
      by_cases e2 : b = c
      · subst e2
        rw [if_neg e1]; exact h1
      · rw [if_neg e2] at h2
        have h3 := sto_befT.trans a b c h1 h2
        rw [if_neg]
        · exact h3
        · rintro rfl; rw [sto_befT.irrefl] at h3; cases h3
theorem befSubs_tri : ∀ x y, befSubs x y = false → befSubs y x = false → x = y
  | [], [], _, _ => rfl
  | [], b :: y, h1, _ => by rw [befSubs_nil] at h1; simp at h1
  | a :: x, [], _, h2 => by rw [befSubs_nil] at h2; simp at h2
  | a :: x, b :: y, h1, h2 => by
    unfold befSubs at h1 h2
    by_cases e : a = b
    · subst e
      rw [if_pos rfl] at h1 h2
      rw [befSubs_tri x y h1 h2]
    · rw [if_neg e] at h1
      rw [if_neg (Ne.symm e)] at h2
      exact absurd (sto_befT.tri a b h1 h2) e
/-- Places, as pairs. -/
def befP (x y : ByteArray × List ByteArray) : Bool := befLoc x.1 x.2 y.1 y.2
theorem sto_befP : Sto befP where
  irrefl x := by unfold befP befLoc; rw [ltT_irrefl, befSubs_irrefl]; simp
  trans x y z h1 h2 := by
    unfold befP befLoc at h1 h2 ⊢
    simp only [Bool.or_eq_true, Bool.and_eq_true, eqT_iff] at h1 h2 ⊢
    rcases h1 with h1 | ⟨e1, h1⟩
    · rcases h2 with h2 | ⟨e2, h2⟩
      · exact .inl (sto_ltT.trans _ _ _ h1 h2)
      · exact .inl (by rw [← e2]; exact h1)
    · rcases h2 with h2 | ⟨e2, h2⟩
      · exact .inl (by rw [e1]; exact h2)
      · exact .inr ⟨e1.trans e2, befSubs_trans _ _ _ h1 h2⟩
  tri x y h1 h2 := by
    unfold befP befLoc at h1 h2
    simp only [Bool.or_eq_false_iff, Bool.and_eq_false_iff] at h1 h2
    have e1 := sto_ltT.tri _ _ h1.1 h2.1
    obtain ⟨x1, x2⟩ := x
    obtain ⟨y1, y2⟩ := y
    simp only at e1 h1 h2
    subst e1
    rw [eqT_refl] at h1 h2
    have h3 := h1.2.resolve_left (by simp)
    have h4 := h2.2.resolve_left (by simp)
    rw [befSubs_tri x2 y2 h3 h4]

end Go.Proofs.YtfibjcaidnofmaaGreatDoor

/- The library's stable sort, in plain words, continued: swapping ranges, blocks. No program in sight. -/
namespace Go.Proofs.YtfibjcaidnofmaaGreatDoor
open Go.Sort

section
variable {α : Type} [Inhabited α] {lt : α → α → Bool}

/-- The first k of two ranges have been swapped. -/
structure SwpR (a b : Nat) (d : Array α) (k : Nat) (e : Array α) : Prop where
  size : e.size = d.size
  perm : ∀ n, k ≤ n → b + n ≤ d.size → a + n ≤ b → PermIn a (b + n) d e
  got : ∀ j, j < k → e[a + j]! = d[b + j]! ∧ e[b + j]! = d[a + j]!
  far : ∀ j, (j < a ∨ a + k ≤ j) → (j < b ∨ b + k ≤ j) → e[j]! = d[j]!
theorem SwpR.start (a b : Nat) (d : Array α) : SwpR a b d 0 d := ⟨rfl, fun _ _ _ _ => permIn_refl d _ _, fun j h => absurd h (by omega), fun _ _ _ => rfl⟩
theorem SwpR.step {a b k n : Nat} {d e : Array α} (h : SwpR a b d k e) (hk : k < n) (hab : a + n ≤ b) (hb : b + n ≤ d.size) : SwpR a b d (k + 1) (swp e (a + k) (b + k)) := by
  have h1 : a + k < e.size := by rw [h.size]; omega
  have h2 : b + k < e.size := by rw [h.size]; omega
  have e1 : e[a + k]! = d[a + k]! := h.far _ (.inr (by omega)) (.inl (by omega))
  have e2 : e[b + k]! = d[b + k]! := h.far _ (.inr (by omega)) (.inr (by omega))
  refine ⟨by rw [size_swp]; exact h.size, fun m hm hbm hm2 => ?_, fun j hj => ?_, fun j hj1 hj2 => ?_⟩
  · refine permIn_trans _ _ _ _ _ (h.perm m (by omega) hbm hm2) ?_
    exact swp_permIn e a (b + m) (a + k) (b + k) (by omega) (by omega) (by omega) (by omega) (by rw [h.size]; omega)
  · by_cases hjk : j = k
    · subst hjk
      rw [swp_left e _ _ h1 (by omega), swp_right e _ _ h2]
      exact ⟨e2, e1⟩
    · rw [swp_other e _ _ _ (by omega) (by omega), swp_other e _ _ _ (by omega) (by omega)]
      exact h.got j (by omega)
  · rw [swp_other e _ _ _ (by omega) (by omega)]
    exact h.far j (by omega) (by omega)

/-- Every block of s elements is sorted. -/
def Blocks (lt : α → α → Bool) (s n : Nat) (d : Array α) : Prop := ∀ q, SortedIn lt (q * s) (min ((q + 1) * s) n) d
/-- Blocks of twice s up to a, blocks of s behind it. -/
structure Half (lt : α → α → Bool) (s n a : Nat) (d : Array α) : Prop where
  lo : ∀ q, (q + 1) * (2 * s) ≤ a → SortedIn lt (q * (2 * s)) ((q + 1) * (2 * s)) d
  hi : ∀ q, a ≤ q * s → SortedIn lt (q * s) (min ((q + 1) * s) n) d
  at_ : ∃ p, a = p * (2 * s)
theorem Half.start {s n : Nat} {d : Array α} (h : Blocks lt s n d) (hs : 0 < s) : Half lt s n 0 d :=
  ⟨fun q hq => by
    have : 0 < (q + 1) * (2 * s) := Nat.mul_pos (by omega) (by omega)
    omega, fun q _ => h q, ⟨0, by omega⟩⟩
theorem sorted_same {a b : Nat} {d d' : Array α} (h : SortedIn lt a b d) (he : ∀ k, a ≤ k → k < b → d'[k]! = d[k]!) : SortedIn lt a b d' := by
  intro p q h1 h2 h3
  rw [he p h1 (by omega), he q (by omega) h3]
  exact h p q h1 h2 h3
/-- Two blocks of s merged. -/
theorem Half.step {s n a : Nat} {d e : Array α} (h : Half lt s n a d) (hs : 0 < s) (hb : a + 2 * s ≤ n) (hP : PermIn a (a + 2 * s) d e) (hS : SortedIn lt a (a + 2 * s) e) : Half lt s n (a + 2 * s) e := by
  obtain ⟨p, rfl⟩ := h.at_
  refine ⟨fun q hq => ?_, fun q hq => ?_, ⟨p + 1, by rw [Nat.add_mul]; omega⟩⟩
  · by_cases hqp : q = p
    · subst hqp
      rw [Nat.add_mul, Nat.one_mul]; exact hS
    · have hle : q + 1 ≤ p := by
        rcases Nat.lt_or_ge p (q + 1) with hh | hh
        · have h2 : p + 2 ≤ q + 1 := by omega
          have h3 := Nat.mul_le_mul_right (2 * s) h2
          rw [Nat.add_mul p 2] at h3
          omega
        · exact hh
      have hm := Nat.mul_le_mul_right (2 * s) hle
      exact sorted_same (h.lo q hm) fun k _ h2 => hP.2.1 k (by omega)
  · exact sorted_same (h.hi q (by omega)) fun k h1 _ => hP.2.1 k (by omega)
theorem Half.two {s n a : Nat} {d : Array α} (h : Half lt s n a d) (hb : a + 2 * s ≤ n) : SortedIn lt a (a + s) d ∧ SortedIn lt (a + s) (a + 2 * s) d := by
  obtain ⟨p, rfl⟩ := h.at_
  have h1 := h.hi (2 * p) (by rw [Nat.mul_comm 2 p, Nat.mul_assoc]; exact Nat.le_refl _)
  have h2 := h.hi (2 * p + 1) (by rw [Nat.add_mul, Nat.mul_comm 2 p, Nat.mul_assoc]; omega)
  have e1 : 2 * p * s = p * (2 * s) := by rw [Nat.mul_comm 2 p, Nat.mul_assoc]
  rw [Nat.add_mul, e1, Nat.one_mul, Nat.min_eq_left (by omega)] at h1
  rw [Nat.add_mul (2 * p + 1), Nat.add_mul (2 * p), e1, Nat.one_mul, Nat.min_eq_left (by omega)] at h2
  refine ⟨h1, ?_⟩
  rw [show p * (2 * s) + s + s = p * (2 * s) + 2 * s by omega] at h2
  exact h2
theorem Half.tail {s n a : Nat} {d : Array α} (h : Half lt s n a d) (hb : a + s < n) (hn : n < a + 2 * s) : SortedIn lt a (a + s) d ∧ SortedIn lt (a + s) n d := by
  obtain ⟨p, rfl⟩ := h.at_
  have h1 := h.hi (2 * p) (by rw [Nat.mul_comm 2 p, Nat.mul_assoc]; exact Nat.le_refl _)
  have h2 := h.hi (2 * p + 1) (by rw [Nat.add_mul, Nat.mul_comm 2 p, Nat.mul_assoc]; omega)
  have e1 : 2 * p * s = p * (2 * s) := by rw [Nat.mul_comm 2 p, Nat.mul_assoc]
  rw [Nat.add_mul, e1, Nat.one_mul, Nat.min_eq_left (by omega)] at h1
  rw [Nat.add_mul (2 * p + 1), Nat.add_mul (2 * p), e1, Nat.one_mul, Nat.min_eq_right (by omega)] at h2
  exact ⟨h1, h2⟩
/-- The last blocks: one is left alone, or two were merged. -/
theorem Half.done {s n a : Nat} {d e : Array α} (h : Half lt s n a d) (hn : n < a + 2 * s) (he : (n ≤ a + s ∧ e = d) ∨ (PermIn a n d e ∧ SortedIn lt a n e)) : Blocks lt (s * 2) n e := by
  intro q
  obtain ⟨p, rfl⟩ := h.at_
  rw [Nat.mul_comm s 2]
  rcases Nat.lt_or_ge q p with hq | hq
  · have hm := Nat.mul_le_mul_right (2 * s) (show q + 1 ≤ p from hq)
    have h0 := h.lo q hm
    have hsame : ∀ k, q * (2 * s) ≤ k → k < (q + 1) * (2 * s) → e[k]! = d[k]! := fun k _ h2 => by
      rcases he with ⟨_, rfl⟩ | ⟨hP, _⟩
      · rfl
      · exact hP.2.1 k (by omega)
    intro x y h1 h2 h3
    exact sorted_same h0 hsame x y h1 h2 (by omega)
  · rcases Nat.eq_or_lt_of_le hq with rfl | hq
    · intro x y h1 h2 h3
      have h4 : y < n := by omega
      rcases he with ⟨hle, rfl⟩ | ⟨_, hS⟩
      · have h5 := h.hi (2 * p) (by rw [Nat.mul_comm 2 p, Nat.mul_assoc]; exact Nat.le_refl _)
        have e1 : 2 * p * s = p * (2 * s) := by rw [Nat.mul_comm 2 p, Nat.mul_assoc]
        rw [Nat.add_mul, e1, Nat.one_mul] at h5
        exact h5 x y h1 h2 (by omega)
      · exact hS x y h1 h2 h4
    · have hm := Nat.mul_le_mul_right (2 * s) (show p + 1 ≤ q from hq)
      rw [Nat.add_mul] at hm
      intro x y h1 h2 h3
      omega
theorem Blocks.all {s n : Nat} {d : Array α} (h : Blocks lt s n d) (hs : n ≤ s) : SortedIn lt 0 n d := by
  have := h 0
  rw [Nat.zero_mul, Nat.zero_add, Nat.one_mul, Nat.min_eq_right hs] at this
  exact this
/-- The first loop: the blocks of s up to a are sorted. -/
structure First (lt : α → α → Bool) (s a : Nat) (d : Array α) : Prop where
  lo : ∀ q, (q + 1) * s ≤ a → SortedIn lt (q * s) ((q + 1) * s) d
  at_ : ∃ p, a = p * s
theorem First.start {s : Nat} {d : Array α} (hs : 0 < s) : First lt s 0 d := ⟨fun q hq => by
  have : 0 < (q + 1) * s := Nat.mul_pos (by omega) hs
  omega, ⟨0, by omega⟩⟩
theorem First.step {s a : Nat} {d e : Array α} (h : First lt s a d) (hs : 0 < s) (hP : PermIn a (a + s) d e) (hS : SortedIn lt a (a + s) e) : First lt s (a + s) e := by
  obtain ⟨p, rfl⟩ := h.at_
  refine ⟨fun q hq => ?_, ⟨p + 1, by rw [Nat.add_mul]; omega⟩⟩
  by_cases hqp : q = p
  · subst hqp
    rw [Nat.add_mul, Nat.one_mul]; exact hS
  · have hle : q + 1 ≤ p := by
      rcases Nat.lt_or_ge p (q + 1) with hh | hh
      · have h3 := Nat.mul_le_mul_right s (show p + 2 ≤ q + 1 by omega)
        rw [Nat.add_mul p 2] at h3
        omega
      · exact hh
    have hm := Nat.mul_le_mul_right s hle
    exact sorted_same (h.lo q hm) fun k _ h2 => hP.2.1 k (by omega)
theorem First.done {s n a : Nat} {d e : Array α} (h : First lt s a d) (han : a ≤ n) (hn : n < a + s) (hP : PermIn a n d e) (hS : SortedIn lt a n e) : Blocks lt s n e := by
  intro q
  obtain ⟨p, rfl⟩ := h.at_
  rcases Nat.lt_or_ge q p with hq | hq
  · have hm := Nat.mul_le_mul_right s (show q + 1 ≤ p from hq)
    intro x y h1 h2 h3
    exact sorted_same (h.lo q hm) (fun k _ h2 => hP.2.1 k (by omega)) x y h1 h2 (by omega)
  · rcases Nat.eq_or_lt_of_le hq with rfl | hq
    · intro x y h1 h2 h3
      exact hS x y h1 h2 (by omega)
    · have hm := Nat.mul_le_mul_right s (show p + 1 ≤ q from hq)
      rw [Nat.add_mul] at hm
      intro x y h1 h2 h3
      omega
end

end Go.Proofs.YtfibjcaidnofmaaGreatDoor

/- Inserting one by one against sorting at once, in plain words: without twins both give one list; with twins no list of them rises. No program in sight. -/
namespace Go.Proofs.YtfibjcaidnofmaaGreatDoor

section
variable {α κ : Type} (lt : κ → κ → Bool) (f : α → κ)
def Rises (t : List α) : Prop := t.Pairwise fun a b => lt (f a) (f b) = true
variable {lt f}
theorem split_while (p : α → Bool) (t : List α) : t.takeWhile p ++ t.dropWhile p = t := List.takeWhile_append_dropWhile
theorem take_all_lt {t : List α} {x y : α} (h : y ∈ t.takeWhile fun y => lt (f y) (f x)) : lt (f y) (f x) = true := by
  induction t with
  | nil => cases h
  | cons a t ih =>
    rw [List.takeWhile_cons] at h
    cases ha : lt (f a) (f x) with
    | true =>
      rw [ha] at h
      rcases List.mem_cons.1 h with rfl | h
      · exact ha
      · exact ih h
    | false => rw [ha] at h; cases h
theorem drop_head {t : List α} {x y : α} {r : List α} (h : t.dropWhile (fun y => lt (f y) (f x)) = y :: r) : lt (f y) (f x) = false := by
  induction t with
  | nil => cases h
  | cons a t ih =>
    rw [List.dropWhile_cons] at h
    cases ha : lt (f a) (f x) with
    | true => rw [ha] at h; exact ih h
    | false =>
      rw [ha] at h
      injection h with h1 _
      rw [← h1]; exact ha

/-- A rising list has no twins; two rising lists of the same are one. -/
theorem rises_nodup (S : Sto lt) {t : List α} (h : Rises lt f t) : (t.map f).Nodup := by
  unfold List.Nodup
  rw [List.pairwise_map]
  exact h.imp fun hab e => by rw [e, S.irrefl] at hab; cases hab
theorem rises_one (S : Sto lt) : ∀ (s t : List α), Rises lt f s → Rises lt f t → s.Perm t → s = t
  | [], t, _, _, hp => (List.nil_perm.1 hp).symm
  | a :: s, [], _, _, hp => absurd hp.length_eq (by simp)
  | a :: s, b :: t, hs, ht, hp => by
    obtain ⟨s1, s2⟩ := List.pairwise_cons.1 hs
    obtain ⟨t1, t2⟩ := List.pairwise_cons.1 ht
    have hab : a = b := by
      have ha := hp.subset List.mem_cons_self
      have hb := hp.symm.subset List.mem_cons_self
      rcases List.mem_cons.1 ha with e | ha
      · exact e
      · rcases List.mem_cons.1 hb with e | hb
        · exact e.symm
        · have h1 := t1 a ha
          have h2 := s1 b hb
          have h3 := S.asymm h1
          rw [h2] at h3; cases h3
    subst hab
    rw [rises_one S s t s2 t2 ((List.perm_cons a).1 hp)]

end

section
variable {α κ : Type} [DecidableEq κ] (lt : κ → κ → Bool) (f : α → κ)

/-- Where x goes: behind all that come before it; one of the same key gives way. -/
def insBehind (x : α) : List α → List α
  | [] => []
  | y :: r => if f y = f x then r else y :: r
def insOne (t : List α) (x : α) : List α := t.takeWhile (fun y => lt (f y) (f x)) ++ x :: insBehind f x (t.dropWhile fun y => lt (f y) (f x))
def hasOne (t : List α) (x : α) : Bool := match t.dropWhile (fun y => lt (f y) (f x)) with
  | [] => false
  | y :: _ => decide (f y = f x)
def insStep (s : List α × Bool) (x : α) : List α × Bool := (insOne lt f s.1 x, s.2 || hasOne lt f s.1 x)
def insAll (L : List α) : List α × Bool := L.foldl (insStep lt f) ([], false)

variable {lt f}
/-- One step without a twin: the list rises still, and x has joined it. -/
theorem ins_new (S : Sto lt) {t : List α} {x : α} (ht : Rises lt f t) (hn : hasOne lt f t x = false) : Rises lt f (insOne lt f t x) ∧ (insOne lt f t x).Perm (x :: t) := by
  have hs := split_while (fun y => lt (f y) (f x)) t
  unfold hasOne at hn
  cases hd : t.dropWhile (fun y => lt (f y) (f x)) with
  | nil =>
    rw [hd, List.append_nil] at hs
    unfold insOne
    rw [hd, hs]
    refine ⟨?_, ?_⟩
    · refine List.pairwise_append.2 ⟨ht, List.pairwise_singleton _ _, fun a ha b hb => ?_⟩
      rw [insBehind, List.mem_singleton] at hb
      rw [hb]
      exact take_all_lt (t := t) (by rw [hs]; exact ha)
    · exact List.perm_append_comm
  | cons y r =>
    rw [hd] at hn hs
    have hne : f y ≠ f x := by simpa using hn
    have hyx := drop_head hd
    have hxy : lt (f x) (f y) = true := by
      cases h : lt (f x) (f y) with
      | true => rfl
      | false => exact absurd (S.tri _ _ hyx h) hne
    unfold insOne
    rw [hd, insBehind, if_neg hne]
    rw [← hs] at ht
    obtain ⟨p1, p2, p3⟩ := List.pairwise_append.1 ht
    refine ⟨?_, ?_⟩
    · refine List.pairwise_append.2 ⟨p1, List.pairwise_cons.2 ⟨fun b hb => ?_, p2⟩, fun a ha b hb => ?_⟩
      · rcases List.mem_cons.1 hb with rfl | hb
        · exact hxy
        · exact S.trans _ _ _ hxy ((List.pairwise_cons.1 p2).1 b hb)
      · rcases List.mem_cons.1 hb with rfl | hb
        · exact take_all_lt ha
        · exact p3 a ha b hb
    · conv => rhs; rw [← hs]
      exact List.perm_middle

/-- What came in so far: a rising list of all of it, or a twin. -/
theorem ins_inv (S : Sto lt) : ∀ (L : List α) (s : List α × Bool) (D : List α), (s.2 = false → Rises lt f s.1 ∧ s.1.Perm D) → (s.2 = true → ¬ (D.map f).Nodup) →
    ((L.foldl (insStep lt f) s).2 = false → Rises lt f (L.foldl (insStep lt f) s).1 ∧ (L.foldl (insStep lt f) s).1.Perm (L.reverse ++ D)) ∧ ((L.foldl (insStep lt f) s).2 = true → ¬ ((L.reverse ++ D).map f).Nodup)
  | [], s, D, h1, h2 => ⟨h1, h2⟩
  | x :: L, s, D, h1, h2 => by
    have h := ins_inv S L (insStep lt f s x) (x :: D) ?_ ?_
    · rw [List.reverse_cons, List.append_assoc]; exact h
    · intro hs
      simp only [insStep, Bool.or_eq_false_iff] at hs
      obtain ⟨a, b⟩ := h1 hs.1
      obtain ⟨c, d⟩ := ins_new S a hs.2
      exact ⟨c, d.trans (b.cons x)⟩
    · intro hs hN
      simp only [insStep, Bool.or_eq_true] at hs
      rw [List.map_cons, List.nodup_cons] at hN
      cases hb : s.2 with
      | true => exact h2 hb hN.2
      | false =>
        rw [hb] at hs
        have hh := hs.resolve_left (by simp)
        obtain ⟨_, b⟩ := h1 hb
        unfold hasOne at hh
        cases hd : s.1.dropWhile (fun y => lt (f y) (f x)) with
        | nil => rw [hd] at hh; cases hh
        | cons y r =>
          rw [hd] at hh
          have e : f y = f x := by simpa using hh
          have hy : y ∈ s.1 := by rw [← split_while (fun y => lt (f y) (f x)) s.1, hd]; simp
          exact hN.1 (by rw [← e]; exact List.mem_map_of_mem (b.subset hy))
theorem ins_all (S : Sto lt) (L : List α) : ((insAll lt f L).2 = false → Rises lt f (insAll lt f L).1 ∧ (insAll lt f L).1.Perm L) ∧ ((insAll lt f L).2 = true → ¬ (L.map f).Nodup) := by
  have h := ins_inv (f := f) S L ([], false) [] (fun _ => ⟨List.Pairwise.nil, List.Perm.refl _⟩) (fun h => by cases h)
  rw [List.append_nil] at h
  refine ⟨fun hs => ⟨(h.1 hs).1, (h.1 hs).2.trans (List.reverse_perm L)⟩, fun hs hN => h.2 hs ?_⟩
  exact (((List.reverse_perm L).map f).nodup_iff).2 hN

/-- THE LAW: P is a list of the same in which none comes behind a greater one: it rises if and only if no twin was met, and then it is what inserting made. -/
theorem sort_ins (S : Sto lt) {L P : List α} (hp : P.Perm L) (hs : P.Pairwise fun a b => lt (f b) (f a) = false) :
    ((insAll lt f L).2 = false → Rises lt f P ∧ P = (insAll lt f L).1) ∧ ((insAll lt f L).2 = true → ¬ Rises lt f P) := by
  refine ⟨fun h => ?_, fun h hr => (ins_all S L).2 h ?_⟩
  · obtain ⟨h1, h2⟩ := (ins_all S L).1 h
    have hN : (P.map f).Nodup := (((hp.trans h2.symm).map f).nodup_iff).2 (rises_nodup S h1)
    have hR : Rises lt f P := by
      unfold List.Nodup at hN
      rw [List.pairwise_map] at hN
      refine (hs.and hN).imp fun {a b} hab => ?_
      cases hx : lt (f a) (f b) with
      | true => rfl
      | false => exact absurd (S.tri _ _ hx hab.1) hab.2
    exact ⟨hR, rises_one S _ _ hR h1 (hp.trans h2.symm)⟩
  · exact ((hp.map f).nodup_iff).1 (rises_nodup S hr)
end

end Go.Proofs.YtfibjcaidnofmaaGreatDoor

/- The library's stable sort, in plain words, continued: the searches and the moves of symMerge, its end. No program in sight. -/
namespace Go.Proofs.YtfibjcaidnofmaaGreatDoor
open Go.Sort

section
variable {α : Type} [Inhabited α] {lt : α → α → Bool}

/-! ### One element on the left: its place on the right -/
theorem srch1_lo (hS : SWO lt) {a b h : Nat} {d : Array α} (hs : SortedIn lt (a + 1) b d) (hb : h < b) (ht : lt d[h]! d[a]! = true) : ∀ k, a + 1 ≤ k → k < h + 1 → lt d[k]! d[a]! = true := by
  intro k h1 h2
  rcases Nat.lt_or_ge k h with hk | hk
  · have e1 := hs k h h1 hk hb
    cases hx : lt d[k]! d[a]! with
    | true => rfl
    | false => have := hS.ntrans _ _ _ e1 hx; rw [this] at ht; cases ht
  · obtain rfl : k = h := by omega
    exact ht
theorem srch1_hi (hS : SWO lt) {a b h : Nat} {d : Array α} (hs : SortedIn lt (a + 1) b d) (ha : a + 1 ≤ h) (ht : lt d[h]! d[a]! = false) : ∀ k, h ≤ k → k < b → lt d[k]! d[a]! = false := by
  intro k h1 h2
  rcases Nat.lt_or_ge h k with hk | hk
  · exact hS.ntrans _ _ _ (hs h k ha hk h2) ht
  · obtain rfl : k = h := by omega
    exact ht
/-! ### One element on the right: its place on the left -/
theorem srch2_lo (hS : SWO lt) {a m h : Nat} {d : Array α} (hs : SortedIn lt a m d) (hm : h < m) (ht : lt d[m]! d[h]! = false) : ∀ k, a ≤ k → k < h + 1 → lt d[m]! d[k]! = false := by
  intro k h1 h2
  rcases Nat.lt_or_ge k h with hk | hk
  · exact hS.ntrans _ _ _ ht (hs k h h1 hk hm)
  · obtain rfl : k = h := by omega
    exact ht
theorem srch2_hi (hS : SWO lt) {a m h : Nat} {d : Array α} (hs : SortedIn lt a m d) (ha : a ≤ h) (ht : lt d[m]! d[h]! = true) : ∀ k, h ≤ k → k < m → lt d[m]! d[k]! = true := by
  intro k h1 h2
  rcases Nat.lt_or_ge h k with hk | hk
  · have e1 := hs h k ha hk h2
    cases hx : lt d[m]! d[k]! with
    | true => rfl
    | false => have := hS.ntrans _ _ _ hx e1; rw [this] at ht; cases ht
  · obtain rfl : k = h := by omega
    exact ht

/-! ### Moving one element by swaps -/
structure MvUp (a b : Nat) (d : Array α) (k : Nat) (e : Array α) : Prop where
  perm : PermIn a b d e
  lo : ∀ x, a ≤ x → x < k → e[x]! = d[x + 1]!
  at_ : e[k]! = d[a]!
  far : ∀ x, x < a ∨ k < x → e[x]! = d[x]!
theorem MvUp.start (a b : Nat) (d : Array α) : MvUp a b d a d := ⟨permIn_refl d a b, fun x h1 h2 => by omega, rfl, fun _ _ => rfl⟩
theorem MvUp.step {a b k : Nat} {d e : Array α} (h : MvUp a b d k e) (hak : a ≤ k) (hkb : k + 1 < b) (hb : b ≤ d.size) : MvUp a b d (k + 1) (swp e k (k + 1)) := by
  have hs := h.perm.1
  have e1 : e[k + 1]! = d[k + 1]! := h.far _ (.inr (by omega))
  refine ⟨permIn_trans _ _ _ _ _ h.perm (swp_permIn e a b k (k + 1) hak (by omega) (by omega) hkb (by omega)), fun x h1 h2 => ?_, ?_, fun x hx => ?_⟩
  · by_cases hx : x = k
    · subst hx; rw [swp_left e _ _ (by omega) (by omega)]; exact e1
    · rw [swp_other e _ _ _ hx (by omega)]; exact h.lo x h1 (by omega)
  · rw [swp_right e _ _ (by omega)]; exact h.at_
  · rw [swp_other e _ _ _ (by omega) (by omega)]; exact h.far x (by omega)
theorem MvUp.done (hS : SWO lt) {a b i : Nat} {d e : Array α} (h : MvUp a b d (i - 1) e) (hs : SortedIn lt (a + 1) b d) (hai : a + 1 ≤ i) (hib : i ≤ b)
    (hlo : ∀ k, a + 1 ≤ k → k < i → lt d[k]! d[a]! = true) (hhi : ∀ k, i ≤ k → k < b → lt d[k]! d[a]! = false) : SortedIn lt a b e :=
  merge_left hS hs hai hib hlo hhi (fun k h1 h2 => h.lo k h1 (by omega)) h.at_ (fun k h1 _ => h.far k (.inr (by omega)))

structure MvDn (a m : Nat) (d : Array α) (k : Nat) (e : Array α) : Prop where
  perm : PermIn a (m + 1) d e
  hi : ∀ x, k ≤ x → x < m → e[x + 1]! = d[x]!
  at_ : e[k]! = d[m]!
  far : ∀ x, x < k ∨ m < x → e[x]! = d[x]!
theorem MvDn.start (a m : Nat) (d : Array α) : MvDn a m d m d := ⟨permIn_refl d a _, fun x h1 h2 => by omega, rfl, fun _ _ => rfl⟩
theorem MvDn.step {a m k : Nat} {d e : Array α} (h : MvDn a m d (k + 1) e) (hak : a ≤ k) (hkm : k < m) (hb : m < d.size) : MvDn a m d k (swp e (k + 1) k) := by
  have hs := h.perm.1
  have e1 : e[k]! = d[k]! := h.far _ (.inl (by omega))
  refine ⟨permIn_trans _ _ _ _ _ h.perm (swp_permIn e a (m + 1) (k + 1) k (by omega) (by omega) hak (by omega) (by omega)), fun x h1 h2 => ?_, ?_, fun x hx => ?_⟩
  · by_cases hx : x = k
    · subst hx; rw [swp_left e _ _ (by omega) (by omega)]; exact e1
    · rw [swp_other e _ _ _ (by omega) (by omega)]; exact h.hi x (by omega) h2
  · rw [swp_right e _ _ (by omega)]; exact h.at_
  · rw [swp_other e _ _ _ (by omega) (by omega)]; exact h.far x (by omega)
theorem MvDn.done (hS : SWO lt) {a m i : Nat} {d e : Array α} (h : MvDn a m d i e) (hs : SortedIn lt a m d) (hai : a ≤ i) (him : i ≤ m)
    (hlo : ∀ k, a ≤ k → k < i → lt d[m]! d[k]! = false) (hhi : ∀ k, i ≤ k → k < m → lt d[m]! d[k]! = true) : SortedIn lt a (m + 1) e :=
  merge_right hS hs hai him hlo hhi (fun k _ h2 => h.far k (.inl h2)) h.at_ (fun k h1 h2 => h.hi k h1 h2)

/-! ### The mirror images' search -/
structure CutI (lt : α → α → Bool) (d : Array α) (a m b mid s r : Nat) : Prop where
  lo : ∀ c, (if mid < m then mid + m - b else a) ≤ c → c < s → lt d[mid + m - 1 - c]! d[c]! = false
  hi : ∀ c, r ≤ c → c < (if mid < m then mid else m) → lt d[mid + m - 1 - c]! d[c]! = true
  ge : (if mid < m then mid + m - b else a) ≤ s
  le : s ≤ r
  re : r ≤ (if mid < m then mid else m)
theorem CutI.start {a m b mid s r : Nat} {d : Array α} (hs : s = if mid < m then mid + m - b else a) (hr : r = if mid < m then mid else m) (hle : s ≤ r) : CutI lt d a m b mid s r :=
  ⟨fun c h1 h2 => by rw [hs] at h2; omega, fun c h1 h2 => by rw [hr] at h1; omega, by rw [hs]; exact Nat.le_refl _, hle, by rw [hr]; exact Nat.le_refl _⟩
theorem CutI.up (hS : SWO lt) {a m b mid s r c : Nat} {d : Array α} (h : CutI lt d a m b mid s r) (h1 : SortedIn lt a m d) (h2 : SortedIn lt m b d) (hmid : mid = (a + b) / 2) (ham : a < m) (hmb : m < b)
    (hsc : s ≤ c) (hcr : c < r) (ht : lt d[mid + m - 1 - c]! d[c]! = false) : CutI lt d a m b mid (c + 1) r := by
  have hge := h.ge
  have hre := h.re
  refine ⟨fun c' q1 q2 => ?_, h.hi, by omega, hcr, hre⟩
  rcases Nat.lt_or_ge c' c with hh | hh
  · cases hx : lt d[mid + m - 1 - c']! d[c']! with
    | false => rfl
    | true =>
      have := cut_mono hS h1 h2 hmid ham hmb (c := c') (c' := c) q1 hh (by omega) hx
      rw [ht] at this; cases this
  · obtain rfl : c' = c := by omega
    exact ht
theorem CutI.down (hS : SWO lt) {a m b mid s r c : Nat} {d : Array α} (h : CutI lt d a m b mid s r) (h1 : SortedIn lt a m d) (h2 : SortedIn lt m b d) (hmid : mid = (a + b) / 2) (ham : a < m) (hmb : m < b)
    (hsc : s ≤ c) (hcr : c < r) (ht : lt d[mid + m - 1 - c]! d[c]! = true) : CutI lt d a m b mid s c := by
  have hge := h.ge
  have hre := h.re
  refine ⟨h.lo, fun c' q1 q2 => ?_, hge, hsc, by omega⟩
  rcases Nat.lt_or_ge c c' with hh | hh
  · exact cut_mono hS h1 h2 hmid ham hmb (c := c) (c' := c') (by omega) hh q2 ht
  · obtain rfl : c' = c := by omega
    exact ht
theorem CutI.done {a m b mid s : Nat} {d : Array α} (h : CutI lt d a m b mid s s) : Cut lt d a m b mid s := ⟨h.lo, h.hi, h.ge, h.re⟩
theorem CutI.in_ {a m b mid s r c : Nat} {d : Array α} (h : CutI lt d a m b mid s r) (hmid : mid = (a + b) / 2) (ham : a < m) (hmb : m < b) (hsc : s ≤ c) (hcr : c < r) : mid + m - 1 - c < b ∧ c < b ∧ c ≤ mid + m - 1 := by
  have hge := h.ge
  have hre := h.re
  split at hge <;> split at hre <;> omega

/-- Behind the rotation, or where none was needed. -/
theorem sym_mid (hS : SWO lt) {a m b mid s e : Nat} {d d1 : Array α} (h1 : SortedIn lt a m d) (h2 : SortedIn lt m b d) (hmid : mid = (a + b) / 2) (ham : a < m) (hmb : m < b)
    (hc : Cut lt d a m b mid s) (he : e = mid + m - s) (hr : (∀ k, d1[k]! = rotT s m e d k) ∨ (¬ (s < m ∧ m < e) ∧ d1 = d)) :
    (a ≤ s ∧ s ≤ mid ∧ mid ≤ e ∧ e ≤ b ∧ s ≤ m ∧ m ≤ e) ∧ SortedIn lt a s d1 ∧ SortedIn lt s mid d1 ∧ SortedIn lt mid e d1 ∧ SortedIn lt e b d1 ∧ ∀ i j, a ≤ i → i < mid → mid ≤ j → j < b → lt d1[j]! d1[i]! = false := by
  have hge := hc.ge
  have hle := hc.le
  have B : a ≤ s ∧ s ≤ mid ∧ mid ≤ e ∧ e ≤ b ∧ s ≤ m ∧ m ≤ e := by split at hge <;> split at hle <;> omega
  refine sym_step hS h1 h2 hmid ham hmb hc he (fun k hk => ?_) (fun k q1 q2 => ?_) (fun k q1 q2 => ?_)
  · rcases hr with hr | ⟨_, rfl⟩
    · rw [hr]; unfold rotT; rw [if_pos hk]
    · rfl
  · rcases hr with hr | ⟨hn, rfl⟩
    · rw [hr]; unfold rotT; rw [if_neg (by omega), if_pos (by omega)]
    · rw [show k + (m - s) = k by omega]
  · rcases hr with hr | ⟨hn, rfl⟩
    · rw [hr]; unfold rotT; rw [if_neg (by omega), if_neg (by omega)]
    · rw [show k - (e - m) = k by omega]
/-- The two halves sorted, each by a call or as they lay. -/
theorem sym_fin {a b mid s e : Nat} {d d1 d2 d3 : Array α} (hb : b ≤ d.size) (B : a ≤ s ∧ s ≤ mid ∧ mid ≤ e ∧ e ≤ b) (P1 : PermIn a b d d1)
    (sa : SortedIn lt a s d1) (sb : SortedIn lt s mid d1) (sc : SortedIn lt mid e d1) (sd : SortedIn lt e b d1) (hx : ∀ i j, a ≤ i → i < mid → mid ≤ j → j < b → lt d1[j]! d1[i]! = false)
    (h2 : (PermIn a mid d1 d2 ∧ SortedIn lt a mid d2) ∨ (¬ (a < s ∧ s < mid) ∧ d2 = d1)) (h3 : (PermIn mid b d2 d3 ∧ SortedIn lt mid b d3) ∨ (¬ (mid < e ∧ e < b) ∧ d3 = d2)) : PermIn a b d d3 ∧ SortedIn lt a b d3 := by
  obtain ⟨b1, b2, b3, b4⟩ := B
  have z1 := P1.1
  have q2 : PermIn a mid d1 d2 ∧ SortedIn lt a mid d2 := by
    rcases h2 with h2 | ⟨hn, rfl⟩
    · exact h2
    · refine ⟨permIn_refl _ _ _, ?_⟩
      rcases Nat.eq_or_lt_of_le b1 with rfl | hlt
      · exact sb
      · obtain rfl : s = mid := by omega
        exact sa
  have z2 := q2.1.1
  have sc2 := sorted_far (lt := lt) sc q2.1 (.inr (Nat.le_refl _))
  have sd2 := sorted_far (lt := lt) sd q2.1 (.inr b3)
  have x2 := cross_perm (lt := lt) (by omega) (by omega) (by omega) hx (.inl q2.1)
  have q3 : PermIn mid b d2 d3 ∧ SortedIn lt mid b d3 := by
    rcases h3 with h3 | ⟨hn, rfl⟩
    · exact h3
    · refine ⟨permIn_refl _ _ _, ?_⟩
      rcases Nat.eq_or_lt_of_le b3 with rfl | hlt
      · exact sd2
      · obtain rfl : e = b := by omega
        exact sc2
  have x3 := cross_perm (lt := lt) (by omega) (by omega) (by omega) x2 (.inr q3.1)
  refine ⟨permIn_trans _ _ _ _ _ (permIn_trans _ _ _ _ _ P1 (permIn_more q2.1 (Nat.le_refl _) (by omega) (by omega))) (permIn_more q3.1 (by omega) (Nat.le_refl _) (by omega)), ?_⟩
  exact sorted_halves (sorted_far (lt := lt) q2.2 q3.1 (.inl (Nat.le_refl _))) q3.2 x3
end

end Go.Proofs.YtfibjcaidnofmaaGreatDoor
