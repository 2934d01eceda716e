/- The library's stable sort, in plain words, continued: swapping ranges, blocks. No program in sight. -/
import Derived.Test.YtfibjcaidnofmaaGreatDoorJoinEOAs
namespace Go.Proofs.YtfibjcaidnofmaaGreatDoor
open Go.Sort

section
variable {α : Type} [Inhabited α] {lt : α → α → Bool}

/-- The first k of two ranges have been swapped. -/
structure SwpR (a b : Nat) (d : Array α) (k : Nat) (e : Array α) : Prop where
  size : e.size = d.size
  perm : ∀ n, k ≤ n → b + n ≤ d.size → a + n ≤ b → PermIn a (b + n) d e
  got : ∀ j, j < k → e[a + j]! = d[b + j]! ∧ e[b + j]! = d[a + j]!
  far : ∀ j, (j < a ∨ a + k ≤ j) → (j < b ∨ b + k ≤ j) → e[j]! = d[j]!
theorem SwpR.start (a b : Nat) (d : Array α) : SwpR a b d 0 d := ⟨rfl, fun _ _ _ _ => permIn_refl d _ _, fun j h => absurd h (by omega), fun _ _ _ => rfl⟩
theorem SwpR.step {a b k n : Nat} {d e : Array α} (h : SwpR a b d k e) (hk : k < n) (hab : a + n ≤ b) (hb : b + n ≤ d.size) : SwpR a b d (k + 1) (swp e (a + k) (b + k)) := by
  have h1 : a + k < e.size := by rw [h.size]; omega
  have h2 : b + k < e.size := by rw [h.size]; omega
  have e1 : e[a + k]! = d[a + k]! := h.far _ (.inr (by omega)) (.inl (by omega))
  have e2 : e[b + k]! = d[b + k]! := h.far _ (.inr (by omega)) (.inr (by omega))
  refine ⟨by rw [size_swp]; exact h.size, fun m hm hbm hm2 => ?_, fun j hj => ?_, fun j hj1 hj2 => ?_⟩
  · refine permIn_trans _ _ _ _ _ (h.perm m (by omega) hbm hm2) ?_
    exact swp_permIn e a (b + m) (a + k) (b + k) (by omega) (by omega) (by omega) (by omega) (by rw [h.size]; omega)
  · by_cases hjk : j = k
    · subst hjk
      rw [swp_left e _ _ h1 (by omega), swp_right e _ _ h2]
      exact ⟨e2, e1⟩
    · rw [swp_other e _ _ _ (by omega) (by omega), swp_other e _ _ _ (by omega) (by omega)]
      exact h.got j (by omega)
  · rw [swp_other e _ _ _ (by omega) (by omega)]
    exact h.far j (by omega) (by omega)

/-- Every block of s elements is sorted. -/
def Blocks (lt : α → α → Bool) (s n : Nat) (d : Array α) : Prop := ∀ q, SortedIn lt (q * s) (min ((q + 1) * s) n) d
/-- Blocks of twice s up to a, blocks of s behind it. -/
structure Half (lt : α → α → Bool) (s n a : Nat) (d : Array α) : Prop where
  lo : ∀ q, (q + 1) * (2 * s) ≤ a → SortedIn lt (q * (2 * s)) ((q + 1) * (2 * s)) d
  hi : ∀ q, a ≤ q * s → SortedIn lt (q * s) (min ((q + 1) * s) n) d
  at_ : ∃ p, a = p * (2 * s)
theorem Half.start {s n : Nat} {d : Array α} (h : Blocks lt s n d) (hs : 0 < s) : Half lt s n 0 d :=
  ⟨fun q hq => by
    have : 0 < (q + 1) * (2 * s) := Nat.mul_pos (by omega) (by omega)
    omega, fun q _ => h q, ⟨0, by omega⟩⟩
theorem sorted_same {a b : Nat} {d d' : Array α} (h : SortedIn lt a b d) (he : ∀ k, a ≤ k → k < b → d'[k]! = d[k]!) : SortedIn lt a b d' := by
  intro p q h1 h2 h3
  rw [he p h1 (by omega), he q (by omega) h3]
  exact h p q h1 h2 h3
/-- Two blocks of s merged. -/
theorem Half.step {s n a : Nat} {d e : Array α} (h : Half lt s n a d) (hs : 0 < s) (hb : a + 2 * s ≤ n) (hP : PermIn a (a + 2 * s) d e) (hS : SortedIn lt a (a + 2 * s) e) : Half lt s n (a + 2 * s) e := by
  obtain ⟨p, rfl⟩ := h.at_
  refine ⟨fun q hq => ?_, fun q hq => ?_, ⟨p + 1, by rw [Nat.add_mul]; omega⟩⟩
  · by_cases hqp : q = p
    · subst hqp
      rw [Nat.add_mul, Nat.one_mul]; exact hS
    · have hle : q + 1 ≤ p := by
        rcases Nat.lt_or_ge p (q + 1) with hh | hh
        · have h2 : p + 2 ≤ q + 1 := by omega
          have h3 := Nat.mul_le_mul_right (2 * s) h2
          rw [Nat.add_mul p 2] at h3
          omega
        · exact hh
      have hm := Nat.mul_le_mul_right (2 * s) hle
      exact sorted_same (h.lo q hm) fun k _ h2 => hP.2.1 k (by omega)
  · exact sorted_same (h.hi q (by omega)) fun k h1 _ => hP.2.1 k (by omega)
theorem Half.two {s n a : Nat} {d : Array α} (h : Half lt s n a d) (hb : a + 2 * s ≤ n) : SortedIn lt a (a + s) d ∧ SortedIn lt (a + s) (a + 2 * s) d := by
  obtain ⟨p, rfl⟩ := h.at_
  have h1 := h.hi (2 * p) (by rw [Nat.mul_comm 2 p, Nat.mul_assoc]; exact Nat.le_refl _)
  have h2 := h.hi (2 * p + 1) (by rw [Nat.add_mul, Nat.mul_comm 2 p, Nat.mul_assoc]; omega)
  have e1 : 2 * p * s = p * (2 * s) := by rw [Nat.mul_comm 2 p, Nat.mul_assoc]
  rw [Nat.add_mul, e1, Nat.one_mul, Nat.min_eq_left (by omega)] at h1
  rw [Nat.add_mul (2 * p + 1), Nat.add_mul (2 * p), e1, Nat.one_mul, Nat.min_eq_left (by omega)] at h2
  refine ⟨h1, ?_⟩
  rw [show p * (2 * s) + s + s = p * (2 * s) + 2 * s by omega] at h2
  exact h2
theorem Half.tail {s n a : Nat} {d : Array α} (h : Half lt s n a d) (hb : a + s < n) (hn : n < a + 2 * s) : SortedIn lt a (a + s) d ∧ SortedIn lt (a + s) n d := by
  obtain ⟨p, rfl⟩ := h.at_
  have h1 := h.hi (2 * p) (by rw [Nat.mul_comm 2 p, Nat.mul_assoc]; exact Nat.le_refl _)
  have h2 := h.hi (2 * p + 1) (by rw [Nat.add_mul, Nat.mul_comm 2 p, Nat.mul_assoc]; omega)
  have e1 : 2 * p * s = p * (2 * s) := by rw [Nat.mul_comm 2 p, Nat.mul_assoc]
  rw [Nat.add_mul, e1, Nat.one_mul, Nat.min_eq_left (by omega)] at h1
  rw [Nat.add_mul (2 * p + 1), Nat.add_mul (2 * p), e1, Nat.one_mul, Nat.min_eq_right (by omega)] at h2
  exact ⟨h1, h2⟩
/-- The last blocks: one is left alone, or two were merged. -/
theorem Half.done {s n a : Nat} {d e : Array α} (h : Half lt s n a d) (hn : n < a + 2 * s) (he : (n ≤ a + s ∧ e = d) ∨ (PermIn a n d e ∧ SortedIn lt a n e)) : Blocks lt (s * 2) n e := by
  intro q
  obtain ⟨p, rfl⟩ := h.at_
  rw [Nat.mul_comm s 2]
  rcases Nat.lt_or_ge q p with hq | hq
  · have hm := Nat.mul_le_mul_right (2 * s) (show q + 1 ≤ p from hq)
    have h0 := h.lo q hm
    have hsame : ∀ k, q * (2 * s) ≤ k → k < (q + 1) * (2 * s) → e[k]! = d[k]! := fun k _ h2 => by
      rcases he with ⟨_, rfl⟩ | ⟨hP, _⟩
      · rfl
      · exact hP.2.1 k (by omega)
    intro x y h1 h2 h3
    exact sorted_same h0 hsame x y h1 h2 (by omega)
  · rcases Nat.eq_or_lt_of_le hq with rfl | hq
    · intro x y h1 h2 h3
      have h4 : y < n := by omega
      rcases he with ⟨hle, rfl⟩ | ⟨_, hS⟩
      · have h5 := h.hi (2 * p) (by rw [Nat.mul_comm 2 p, Nat.mul_assoc]; exact Nat.le_refl _)
        have e1 : 2 * p * s = p * (2 * s) := by rw [Nat.mul_comm 2 p, Nat.mul_assoc]
        rw [Nat.add_mul, e1, Nat.one_mul] at h5
        exact h5 x y h1 h2 (by omega)
      · exact hS x y h1 h2 h4
    · have hm := Nat.mul_le_mul_right (2 * s) (show p + 1 ≤ q from hq)
      rw [Nat.add_mul] at hm
      intro x y h1 h2 h3
      omega
theorem Blocks.all {s n : Nat} {d : Array α} (h : Blocks lt s n d) (hs : n ≤ s) : SortedIn lt 0 n d := by
  have := h 0
  rw [Nat.zero_mul, Nat.zero_add, Nat.one_mul, Nat.min_eq_right hs] at this
  exact this
/-- The first loop: the blocks of s up to a are sorted. -/
structure First (lt : α → α → Bool) (s a : Nat) (d : Array α) : Prop where
  lo : ∀ q, (q + 1) * s ≤ a → SortedIn lt (q * s) ((q + 1) * s) d
  at_ : ∃ p, a = p * s
theorem First.start {s : Nat} {d : Array α} (hs : 0 < s) : First lt s 0 d := ⟨fun q hq => by
  have : 0 < (q + 1) * s := Nat.mul_pos (by omega) hs
  omega, ⟨0, by omega⟩⟩
theorem First.step {s a : Nat} {d e : Array α} (h : First lt s a d) (hs : 0 < s) (hP : PermIn a (a + s) d e) (hS : SortedIn lt a (a + s) e) : First lt s (a + s) e := by
  obtain ⟨p, rfl⟩ := h.at_
  refine ⟨fun q hq => ?_, ⟨p + 1, by rw [Nat.add_mul]; omega⟩⟩
  by_cases hqp : q = p
  · subst hqp
    rw [Nat.add_mul, Nat.one_mul]; exact hS
  · have hle : q + 1 ≤ p := by
      rcases Nat.lt_or_ge p (q + 1) with hh | hh
      · have h3 := Nat.mul_le_mul_right s (show p + 2 ≤ q + 1 by omega)
        rw [Nat.add_mul p 2] at h3
        omega
      · exact hh
    have hm := Nat.mul_le_mul_right s hle
    exact sorted_same (h.lo q hm) fun k _ h2 => hP.2.1 k (by omega)
theorem First.done {s n a : Nat} {d e : Array α} (h : First lt s a d) (han : a ≤ n) (hn : n < a + s) (hP : PermIn a n d e) (hS : SortedIn lt a n e) : Blocks lt s n e := by
  intro q
  obtain ⟨p, rfl⟩ := h.at_
  rcases Nat.lt_or_ge q p with hq | hq
  · have hm := Nat.mul_le_mul_right s (show q + 1 ≤ p from hq)
    intro x y h1 h2 h3
    exact sorted_same (h.lo q hm) (fun k _ h2 => hP.2.1 k (by omega)) x y h1 h2 (by omega)
  · rcases Nat.eq_or_lt_of_le hq with rfl | hq
    · intro x y h1 h2 h3
      exact hS x y h1 h2 (by omega)
    · have hm := Nat.mul_le_mul_right s (show p + 1 ≤ q from hq)
      rw [Nat.add_mul] at hm
      intro x y h1 h2 h3
      omega
end

end Go.Proofs.YtfibjcaidnofmaaGreatDoor

/- The library's stable sort, in plain words, continued: the searches and the moves of symMerge, its end. No program in sight. -/
namespace Go.Proofs.YtfibjcaidnofmaaGreatDoor
open Go.Sort

section
variable {α : Type} [Inhabited α] {lt : α → α → Bool}

/-! ### One element on the left: its place on the right -/
theorem srch1_lo (hS : SWO lt) {a b h : Nat} {d : Array α} (hs : SortedIn lt (a + 1) b d) (hb : h < b) (ht : lt d[h]! d[a]! = true) : ∀ k, a + 1 ≤ k → k < h + 1 → lt d[k]! d[a]! = true := by
  intro k h1 h2
  rcases Nat.lt_or_ge k h with hk | hk
  · have e1 := hs k h h1 hk hb
    cases hx : lt d[k]! d[a]! with
    | true => rfl
    | false => have := hS.ntrans _ _ _ e1 hx; rw [this] at ht; cases ht
  · obtain rfl : k = h := by omega
    exact ht
theorem srch1_hi (hS : SWO lt) {a b h : Nat} {d : Array α} (hs : SortedIn lt (a + 1) b d) (ha : a + 1 ≤ h) (ht : lt d[h]! d[a]! = false) : ∀ k, h ≤ k → k < b → lt d[k]! d[a]! = false := by
  intro k h1 h2
  rcases Nat.lt_or_ge h k with hk | hk
  · exact hS.ntrans _ _ _ (hs h k ha hk h2) ht
  · obtain rfl : k = h := by omega
    exact ht
/-! ### One element on the right: its place on the left -/
theorem srch2_lo (hS : SWO lt) {a m h : Nat} {d : Array α} (hs : SortedIn lt a m d) (hm : h < m) (ht : lt d[m]! d[h]! = false) : ∀ k, a ≤ k → k < h + 1 → lt d[m]! d[k]! = false := by
  intro k h1 h2
  rcases Nat.lt_or_ge k h with hk | hk
  · exact hS.ntrans _ _ _ ht (hs k h h1 hk hm)
  · obtain rfl : k = h := by omega
    exact ht
theorem srch2_hi (hS : SWO lt) {a m h : Nat} {d : Array α} (hs : SortedIn lt a m d) (ha : a ≤ h) (ht : lt d[m]! d[h]! = true) : ∀ k, h ≤ k → k < m → lt d[m]! d[k]! = true := by
  intro k h1 h2
  rcases Nat.lt_or_ge h k with hk | hk
  · have e1 := hs h k ha hk h2
    cases hx : lt d[m]! d[k]! with
    | true => rfl
    | false => have := hS.ntrans _ _ _ hx e1; rw [this] at ht; cases ht
  · obtain rfl : k = h := by omega
    exact ht

/-! ### Moving one element by swaps -/
structure MvUp (a b : Nat) (d : Array α) (k : Nat) (e : Array α) : Prop where
  perm : PermIn a b d e
  lo : ∀ x, a ≤ x → x < k → e[x]! = d[x + 1]!
  at_ : e[k]! = d[a]!
  far : ∀ x, x < a ∨ k < x → e[x]! = d[x]!
theorem MvUp.start (a b : Nat) (d : Array α) : MvUp a b d a d := ⟨permIn_refl d a b, fun x h1 h2 => by omega, rfl, fun _ _ => rfl⟩
theorem MvUp.step {a b k : Nat} {d e : Array α} (h : MvUp a b d k e) (hak : a ≤ k) (hkb : k + 1 < b) (hb : b ≤ d.size) : MvUp a b d (k + 1) (swp e k (k + 1)) := by
  have hs := h.perm.1
  have e1 : e[k + 1]! = d[k + 1]! := h.far _ (.inr (by omega))
  refine ⟨permIn_trans _ _ _ _ _ h.perm (swp_permIn e a b k (k + 1) hak (by omega) (by omega) hkb (by omega)), fun x h1 h2 => ?_, ?_, fun x hx => ?_⟩
  · by_cases hx : x = k
    · subst hx; rw [swp_left e _ _ (by omega) (by omega)]; exact e1
    · rw [swp_other e _ _ _ hx (by omega)]; exact h.lo x h1 (by omega)
  · rw [swp_right e _ _ (by omega)]; exact h.at_
  · rw [swp_other e _ _ _ (by omega) (by omega)]; exact h.far x (by omega)
theorem MvUp.done (hS : SWO lt) {a b i : Nat} {d e : Array α} (h : MvUp a b d (i - 1) e) (hs : SortedIn lt (a + 1) b d) (hai : a + 1 ≤ i) (hib : i ≤ b)
    (hlo : ∀ k, a + 1 ≤ k → k < i → lt d[k]! d[a]! = true) (hhi : ∀ k, i ≤ k → k < b → lt d[k]! d[a]! = false) : SortedIn lt a b e :=
  merge_left hS hs hai hib hlo hhi (fun k h1 h2 => h.lo k h1 (by omega)) h.at_ (fun k h1 _ => h.far k (.inr (by omega)))

structure MvDn (a m : Nat) (d : Array α) (k : Nat) (e : Array α) : Prop where
  perm : PermIn a (m + 1) d e
  hi : ∀ x, k ≤ x → x < m → e[x + 1]! = d[x]!
  at_ : e[k]! = d[m]!
  far : ∀ x, x < k ∨ m < x → e[x]! = d[x]!
theorem MvDn.start (a m : Nat) (d : Array α) : MvDn a m d m d := ⟨permIn_refl d a _, fun x h1 h2 => by omega, rfl, fun _ _ => rfl⟩
theorem MvDn.step {a m k : Nat} {d e : Array α} (h : MvDn a m d (k + 1) e) (hak : a ≤ k) (hkm : k < m) (hb : m < d.size) : MvDn a m d k (swp e (k + 1) k) := by
  have hs := h.perm.1
  have e1 : e[k]! = d[k]! := h.far _ (.inl (by omega))
  refine ⟨permIn_trans _ _ _ _ _ h.perm (swp_permIn e a (m + 1) (k + 1) k (by omega) (by omega) hak (by omega) (by omega)), fun x h1 h2 => ?_, ?_, fun x hx => ?_⟩
  · by_cases hx : x = k
    · subst hx; rw [swp_left e _ _ (by omega) (by omega)]; exact e1
    · rw [swp_other e _ _ _ (by omega) (by omega)]; exact h.hi x (by omega) h2
  · rw [swp_right e _ _ (by omega)]; exact h.at_
  · rw [swp_other e _ _ _ (by omega) (by omega)]; exact h.far x (by omega)
theorem MvDn.done (hS : SWO lt) {a m i : Nat} {d e : Array α} (h : MvDn a m d i e) (hs : SortedIn lt a m d) (hai : a ≤ i) (him : i ≤ m)
    (hlo : ∀ k, a ≤ k → k < i → lt d[m]! d[k]! = false) (hhi : ∀ k, i ≤ k → k < m → lt d[m]! d[k]! = true) : SortedIn lt a (m + 1) e :=
  merge_right hS hs hai him hlo hhi (fun k _ h2 => h.far k (.inl h2)) h.at_ (fun k h1 h2 => h.hi k h1 h2)

/-! ### The mirror images' search -/
structure CutI (lt : α → α → Bool) (d : Array α) (a m b mid s r : Nat) : Prop where
  lo : ∀ c, (if mid < m then mid + m - b else a) ≤ c → c < s → lt d[mid + m - 1 - c]! d[c]! = false
  hi : ∀ c, r ≤ c → c < (if mid < m then mid else m) → lt d[mid + m - 1 - c]! d[c]! = true
  ge : (if mid < m then mid + m - b else a) ≤ s
  le : s ≤ r
  re : r ≤ (if mid < m then mid else m)
theorem CutI.start {a m b mid s r : Nat} {d : Array α} (hs : s = if mid < m then mid + m - b else a) (hr : r = if mid < m then mid else m) (hle : s ≤ r) : CutI lt d a m b mid s r :=
  ⟨fun c h1 h2 => by rw [hs] at h2; omega, fun c h1 h2 => by rw [hr] at h1; omega, by rw [hs]; exact Nat.le_refl _, hle, by rw [hr]; exact Nat.le_refl _⟩
theorem CutI.up (hS : SWO lt) {a m b mid s r c : Nat} {d : Array α} (h : CutI lt d a m b mid s r) (h1 : SortedIn lt a m d) (h2 : SortedIn lt m b d) (hmid : mid = (a + b) / 2) (ham : a < m) (hmb : m < b)
    (hsc : s ≤ c) (hcr : c < r) (ht : lt d[mid + m - 1 - c]! d[c]! = false) : CutI lt d a m b mid (c + 1) r := by
  have hge := h.ge
  have hre := h.re
  refine ⟨fun c' q1 q2 => ?_, h.hi, by omega, hcr, hre⟩
  rcases Nat.lt_or_ge c' c with hh | hh
  · cases hx : lt d[mid + m - 1 - c']! d[c']! with
    | false => rfl
    | true =>
      have := cut_mono hS h1 h2 hmid ham hmb (c := c') (c' := c) q1 hh (by omega) hx
      rw [ht] at this; cases this
  · obtain rfl : c' = c := by omega
    exact ht
theorem CutI.down (hS : SWO lt) {a m b mid s r c : Nat} {d : Array α} (h : CutI lt d a m b mid s r) (h1 : SortedIn lt a m d) (h2 : SortedIn lt m b d) (hmid : mid = (a + b) / 2) (ham : a < m) (hmb : m < b)
    (hsc : s ≤ c) (hcr : c < r) (ht : lt d[mid + m - 1 - c]! d[c]! = true) : CutI lt d a m b mid s c := by
  have hge := h.ge
  have hre := h.re
  refine ⟨h.lo, fun c' q1 q2 => ?_, hge, hsc, by omega⟩
  rcases Nat.lt_or_ge c c' with hh | hh
  · exact cut_mono hS h1 h2 hmid ham hmb (c := c) (c' := c') (by omega) hh q2 ht
  · obtain rfl : c' = c := by omega
    exact ht
theorem CutI.done {a m b mid s : Nat} {d : Array α} (h : CutI lt d a m b mid s s) : Cut lt d a m b mid s := ⟨h.lo, h.hi, h.ge, h.re⟩
theorem CutI.in_ {a m b mid s r c : Nat} {d : Array α} (h : CutI lt d a m b mid s r) (hmid : mid = (a + b) / 2) (ham : a < m) (hmb : m < b) (hsc : s ≤ c) (hcr : c < r) : mid + m - 1 - c < b ∧ c < b ∧ c ≤ mid + m - 1 := by
  have hge := h.ge
  have hre := h.re
  split at hge <;> split at hre <;> omega

/-- Behind the rotation, or where none was needed. -/
theorem sym_mid (hS : SWO lt) {a m b mid s e : Nat} {d d1 : Array α} (h1 : SortedIn lt a m d) (h2 : SortedIn lt m b d) (hmid : mid = (a + b) / 2) (ham : a < m) (hmb : m < b)
    (hc : Cut lt d a m b mid s) (he : e = mid + m - s) (hr : (∀ k, d1[k]! = rotT s m e d k) ∨ (¬ (s < m ∧ m < e) ∧ d1 = d)) :
    (a ≤ s ∧ s ≤ mid ∧ mid ≤ e ∧ e ≤ b ∧ s ≤ m ∧ m ≤ e) ∧ SortedIn lt a s d1 ∧ SortedIn lt s mid d1 ∧ SortedIn lt mid e d1 ∧ SortedIn lt e b d1 ∧ ∀ i j, a ≤ i → i < mid → mid ≤ j → j < b → lt d1[j]! d1[i]! = false := by
  have hge := hc.ge
  have hle := hc.le
  have B : a ≤ s ∧ s ≤ mid ∧ mid ≤ e ∧ e ≤ b ∧ s ≤ m ∧ m ≤ e := by split at hge <;> split at hle <;> omega
  refine sym_step hS h1 h2 hmid ham hmb hc he (fun k hk => ?_) (fun k q1 q2 => ?_) (fun k q1 q2 => ?_)
  · rcases hr with hr | ⟨_, rfl⟩
    · rw [hr]; unfold rotT; rw [if_pos hk]
    · rfl
  · rcases hr with hr | ⟨hn, rfl⟩
    · rw [hr]; unfold rotT; rw [if_neg (by omega), if_pos (by omega)]
    · rw [show k + (m - s) = k by omega]
  · rcases hr with hr | ⟨hn, rfl⟩
    · rw [hr]; unfold rotT; rw [if_neg (by omega), if_neg (by omega)]
    · rw [show k - (e - m) = k by omega]
/-- The two halves sorted, each by a call or as they lay. -/
theorem sym_fin {a b mid s e : Nat} {d d1 d2 d3 : Array α} (hb : b ≤ d.size) (B : a ≤ s ∧ s ≤ mid ∧ mid ≤ e ∧ e ≤ b) (P1 : PermIn a b d d1)
    (sa : SortedIn lt a s d1) (sb : SortedIn lt s mid d1) (sc : SortedIn lt mid e d1) (sd : SortedIn lt e b d1) (hx : ∀ i j, a ≤ i → i < mid → mid ≤ j → j < b → lt d1[j]! d1[i]! = false)
    (h2 : (PermIn a mid d1 d2 ∧ SortedIn lt a mid d2) ∨ (¬ (a < s ∧ s < mid) ∧ d2 = d1)) (h3 : (PermIn mid b d2 d3 ∧ SortedIn lt mid b d3) ∨ (¬ (mid < e ∧ e < b) ∧ d3 = d2)) : PermIn a b d d3 ∧ SortedIn lt a b d3 := by
  obtain ⟨b1, b2, b3, b4⟩ := B
  have z1 := P1.1
  have q2 : PermIn a mid d1 d2 ∧ SortedIn lt a mid d2 := by
    rcases h2 with h2 | ⟨hn, rfl⟩
    · exact h2
    · refine ⟨permIn_refl _ _ _, ?_⟩
      rcases Nat.eq_or_lt_of_le b1 with rfl | hlt
      · exact sb
      · obtain rfl : s = mid := by omega
        exact sa
  have z2 := q2.1.1
  have sc2 := sorted_far (lt := lt) sc q2.1 (.inr (Nat.le_refl _))
  have sd2 := sorted_far (lt := lt) sd q2.1 (.inr b3)
  have x2 := cross_perm (lt := lt) (by omega) (by omega) (by omega) hx (.inl q2.1)
  have q3 : PermIn mid b d2 d3 ∧ SortedIn lt mid b d3 := by
    rcases h3 with h3 | ⟨hn, rfl⟩
    · exact h3
    · refine ⟨permIn_refl _ _ _, ?_⟩
      rcases Nat.eq_or_lt_of_le b3 with rfl | hlt
      · exact sd2
      · obtain rfl : e = b := by omega
        exact sc2
  have x3 := cross_perm (lt := lt) (by omega) (by omega) (by omega) x2 (.inr q3.1)
  refine ⟨permIn_trans _ _ _ _ _ (permIn_trans _ _ _ _ _ P1 (permIn_more q2.1 (Nat.le_refl _) (by omega) (by omega))) (permIn_more q3.1 (by omega) (Nat.le_refl _) (by omega)), ?_⟩
  exact sorted_halves (sorted_far (lt := lt) q2.2 q3.1 (.inl (Nat.le_refl _))) q3.2 x3
end

end Go.Proofs.YtfibjcaidnofmaaGreatDoor
