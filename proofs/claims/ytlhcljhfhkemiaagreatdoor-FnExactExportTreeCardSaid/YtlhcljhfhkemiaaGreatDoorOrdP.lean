/- The order of texts, lists of texts and places: plain laws. -/
import Derived.Test.YtlhcljhfhkemiaaGreatDoorNumQ
namespace Go.Proofs.YtlhcljhfhkemiaaGreatDoor

def ltT (a b : ByteArray) : Bool := Op.bytesLess a.toList b.toList
def eqT (a b : ByteArray) : Bool := a.toList == b.toList
theorem eqT_iff (a b : ByteArray) : eqT a b = true ↔ a = b := by
  unfold eqT
  rw [beq_iff_eq]
  constructor
  · intro h
    rw [ByteArray.toList_eq, ByteArray.toList_eq] at h
    exact ByteArray.ext (Array.toList_inj.1 h)
  · rintro rfl; rfl
theorem eqT_false {a b : ByteArray} (h : a ≠ b) : eqT a b = false := by
  cases he : eqT a b
  · rfl
  · exact absurd ((eqT_iff a b).1 he) h
theorem eqT_refl (a : ByteArray) : eqT a a = true := (eqT_iff a a).2 rfl
theorem less_irrefl : ∀ l : List UInt8, Op.bytesLess l l = false
  | [] => rfl
  | a :: l => by
    unfold Op.bytesLess
    rw [less_irrefl l]
    have : ¬ a < a := UInt8.lt_irrefl a
    simp [this]
theorem ltT_irrefl (a : ByteArray) : ltT a a = false := less_irrefl _
/-- cmp.Compare of texts. -/
def cmpS (a b : ByteArray) : Int := if ltT a b then -1 else if eqT a b then 0 else 1
def cmpI (a b : Int) : Int := if a < b then -1 else if a = b then 0 else 1
def canT (a : ByteArray) : Bool := canonB a.data.toList
def numT (a : ByteArray) : Int := numOf a.data.toList
def befT (a b : ByteArray) : Bool := if canT a && canT b then decide (numT a < numT b) else if canT a != canT b then canT a else ltT a b
def cmpT (a b : ByteArray) : Int := if canT a && canT b then cmpI (numT a) (numT b) else if canT a then -1 else if canT b then 1 else cmpS a b

theorem canT_inj {a b : ByteArray} (ha : canT a = true) (hb : canT b = true) (h : numT a = numT b) : a = b := by
  unfold canT canonB at ha hb
  unfold numT at h
  have h1 := of_decide_eq_true ha
  have h2 := of_decide_eq_true hb
  rw [h] at h1
  exact ByteArray.ext (Array.toList_inj.1 (h1.symm.trans h2))
theorem cmpT_zero (a b : ByteArray) : cmpT a b = 0 ↔ a = b := by
  constructor
  · unfold cmpT
    cases ha : canT a <;> cases hb : canT b <;> simp only [Bool.and_true, Bool.and_false, Bool.false_eq_true, if_true, if_false]
    · unfold cmpS
      split
      · intro h; cases h
      · split
        · rename_i h; intro _; exact (eqT_iff a b).1 h
        · intro h; cases h
    · intro h; cases h
    · intro h; cases h
    · unfold cmpI
      split
      · intro h; cases h
      · split
        · rename_i h; intro _; exact canT_inj ha hb h
        · intro h; cases h
  · rintro rfl
    unfold cmpT
    cases ha : canT a
    · unfold cmpS; simp [ltT_irrefl, eqT_refl]
    · unfold cmpI; simp
theorem cmpT_neg (a b : ByteArray) : decide (cmpT a b < 0) = befT a b := by
  unfold cmpT befT
  cases ha : canT a <;> cases hb : canT b <;> simp only [Bool.and_true, Bool.and_false, Bool.false_eq_true, if_true, if_false, bne_self_eq_false, Bool.bne_true, Bool.bne_false, Bool.not_true, Bool.not_false]
  · unfold cmpS
    cases h : ltT a b
    · cases h2 : eqT a b <;> rfl
    · rfl
  · rfl
  · rfl
  · unfold cmpI
    by_cases h : numT a < numT b
    · rw [if_pos h, decide_eq_true h]; rfl
    · rw [if_neg h, decide_eq_false h]
      split <;> rfl
theorem cmpS_zero (a b : ByteArray) : cmpS a b = 0 ↔ a = b := by
  constructor
  · unfold cmpS
    split
    · intro h; cases h
    · split
      · rename_i h; intro _; exact (eqT_iff a b).1 h
      · intro h; cases h
  · rintro rfl; unfold cmpS; simp [ltT_irrefl, eqT_refl]
theorem cmpS_neg (a b : ByteArray) : decide (cmpS a b < 0) = ltT a b := by
  unfold cmpS
  cases h : ltT a b
  · cases h2 : eqT a b <;> rfl
  · rfl

def befSubs : List ByteArray → List ByteArray → Bool
  | a :: x, b :: y => if a = b then befSubs x y else befT a b
  | x, y => decide (x.length < y.length)
def cmpSubs : List ByteArray → List ByteArray → Int
  | a :: x, b :: y => if cmpT a b = 0 then cmpSubs x y else cmpT a b
  | [], [] => 0
  | [], _ :: _ => -1
  | _ :: _, [] => 1
theorem cmpSubs_neg : ∀ (x y : List ByteArray), decide (cmpSubs x y < 0) = befSubs x y
  | [], [] => rfl
  | [], _ :: _ => by
    show decide ((-1 : Int) < 0) = decide (0 < _ + 1)
    rw [decide_eq_true (by omega), decide_eq_true (by omega)]
  | _ :: _, [] => by
    show decide ((1 : Int) < 0) = decide (_ + 1 < 0)
    rw [decide_eq_false (by omega), decide_eq_false (by omega)]
  | a :: x, b :: y => by
    unfold cmpSubs befSubs
    by_cases h : a = b
    · rw [if_pos h, if_pos ((cmpT_zero a b).2 h)]; exact cmpSubs_neg x y
    · rw [if_neg h, if_neg (fun e => h ((cmpT_zero a b).1 e))]; exact cmpT_neg a b
def befLoc (n : ByteArray) (x : List ByteArray) (m : ByteArray) (y : List ByteArray) : Bool := ltT n m || (eqT n m && befSubs x y)
def cmpLoc (n : ByteArray) (x : List ByteArray) (m : ByteArray) (y : List ByteArray) : Int := if cmpS n m = 0 then cmpSubs x y else cmpS n m
theorem cmpLoc_neg (n : ByteArray) (x : List ByteArray) (m : ByteArray) (y : List ByteArray) : decide (cmpLoc n x m y < 0) = befLoc n x m y := by
  unfold cmpLoc befLoc
  by_cases h : n = m
  · subst h
    rw [if_pos ((cmpS_zero n n).2 rfl), ltT_irrefl, eqT_refl, cmpSubs_neg]; rfl
  · rw [if_neg (fun e => h ((cmpS_zero n m).1 e)), cmpS_neg, eqT_false h, Bool.false_and, Bool.or_false]
theorem cmpLoc_nonneg (n : ByteArray) (x : List ByteArray) (m : ByteArray) (y : List ByteArray) : decide (0 ≤ cmpLoc n x m y) = !befLoc n x m y := by
  rw [← cmpLoc_neg]
  by_cases h : cmpLoc n x m y < 0
  · rw [decide_eq_true h, decide_eq_false (by omega)]; rfl
  · rw [decide_eq_false h, decide_eq_true (by omega)]; rfl
/-- The first place where two lists differ. -/
theorem befSubs_skip : ∀ (k : Nat) (x y : List ByteArray), x.take k = y.take k → k ≤ x.length → k ≤ y.length → befSubs x y = befSubs (x.drop k) (y.drop k)
  | 0, _, _, _, _, _ => rfl
  | k + 1, [], _, _, h, _ => absurd h (by simp)
  | k + 1, _ :: _, [], _, _, h => absurd h (by simp)
  | k + 1, a :: x, b :: y, h, h1, h2 => by
    rw [List.take_succ_cons, List.take_succ_cons] at h
    injection h with h3 h4
    rw [List.drop_succ_cons, List.drop_succ_cons, ← befSubs_skip k x y h4 (by simpa using h1) (by simpa using h2)]
    show (if a = b then befSubs x y else befT a b) = _
    rw [if_pos h3]
theorem befSubs_at (k : Nat) (x y : List ByteArray) (h : x.take k = y.take k) (h1 : k < x.length) (h2 : k < y.length) (hd : x.getD k ByteArray.empty ≠ y.getD k ByteArray.empty) : befSubs x y = befT (x.getD k ByteArray.empty) (y.getD k ByteArray.empty) := by
  rw [befSubs_skip k x y h (by omega) (by omega), List.drop_eq_getElem_cons h1, List.drop_eq_getElem_cons h2]
  rw [List.getD_eq_getElem?_getD, List.getD_eq_getElem?_getD, List.getElem?_eq_getElem h1, List.getElem?_eq_getElem h2] at hd ⊢
  show (if x[k] = y[k] then _ else befT x[k] y[k]) = _
  rw [if_neg (by simpa using hd)]
  rfl
theorem befSubs_end (k : Nat) (x y : List ByteArray) (h : x.take k = y.take k) (h1 : k ≤ x.length) (h2 : k ≤ y.length) (he : k = x.length ∨ k = y.length) : befSubs x y = decide (x.length < y.length) := by
  rw [befSubs_skip k x y h h1 h2]
  have hx : (x.drop k).length = x.length - k := List.length_drop ..
  have hy : (y.drop k).length = y.length - k := List.length_drop ..
  have e : decide (x.length < y.length) = decide ((x.drop k).length < (y.drop k).length) := by rw [hx, hy, decide_eq_decide]; omega
  rw [e]
  rcases he with he | he
  · have : x.drop k = [] := List.eq_nil_of_length_eq_zero (by omega)
    rw [this]; cases y.drop k <;> rfl
  · have : y.drop k = [] := List.eq_nil_of_length_eq_zero (by omega)
    rw [this]; cases x.drop k <;> rfl
theorem cmpSubs_skip : ∀ (k : Nat) (x y : List ByteArray), x.take k = y.take k → k ≤ x.length → k ≤ y.length → cmpSubs x y = cmpSubs (x.drop k) (y.drop k)
  | 0, _, _, _, _, _ => rfl
  | k + 1, [], _, _, h, _ => absurd h (by simp)
  | k + 1, _ :: _, [], _, _, h => absurd h (by simp)
  | k + 1, a :: x, b :: y, h, h1, h2 => by
    rw [List.take_succ_cons, List.take_succ_cons] at h
    injection h with h3 h4
    rw [List.drop_succ_cons, List.drop_succ_cons, ← cmpSubs_skip k x y h4 (by simpa using h1) (by simpa using h2)]
    show (if cmpT a b = 0 then cmpSubs x y else cmpT a b) = _
    rw [if_pos ((cmpT_zero a b).2 h3)]
theorem cmpSubs_at (k : Nat) (x y : List ByteArray) (h : x.take k = y.take k) (h1 : k < x.length) (h2 : k < y.length) (hd : cmpT (x.getD k ByteArray.empty) (y.getD k ByteArray.empty) ≠ 0) : cmpSubs x y = cmpT (x.getD k ByteArray.empty) (y.getD k ByteArray.empty) := by
  rw [cmpSubs_skip k x y h (by omega) (by omega), List.drop_eq_getElem_cons h1, List.drop_eq_getElem_cons h2]
  rw [List.getD_eq_getElem?_getD, List.getD_eq_getElem?_getD, List.getElem?_eq_getElem h1, List.getElem?_eq_getElem h2] at hd ⊢
  show (if cmpT x[k] y[k] = 0 then _ else cmpT x[k] y[k]) = _
  rw [if_neg (by simpa using hd)]
  rfl
theorem cmpSubs_long (x y : List ByteArray) (h : x.take y.length = y) (h1 : y.length < x.length) : cmpSubs x y = 1 := by
  rw [cmpSubs_skip y.length x y (by rw [h, List.take_length]) (by omega) (Nat.le_refl _), List.drop_length, List.drop_eq_getElem_cons h1]
  rfl
theorem cmpSubs_short (x y : List ByteArray) (h : x = y.take x.length) (h1 : x.length < y.length) : cmpSubs x y = -1 := by
  rw [cmpSubs_skip x.length x y (by rw [List.take_length]; exact h) (Nat.le_refl _) (by omega), List.drop_length, List.drop_eq_getElem_cons h1]
  rfl
theorem cmpSubs_same (x : List ByteArray) : cmpSubs x x = 0 := by
  rw [cmpSubs_skip x.length x x rfl (Nat.le_refl _) (Nat.le_refl _), List.drop_length]
  rfl
theorem take_next (k : Nat) (x y : List ByteArray) (h : x.take k = y.take k) (h1 : k < x.length) (h2 : k < y.length) (he : x.getD k ByteArray.empty = y.getD k ByteArray.empty) : x.take (k + 1) = y.take (k + 1) := by
  rw [List.take_succ_eq_append_getElem h1, List.take_succ_eq_append_getElem h2, h]
  rw [List.getD_eq_getElem?_getD, List.getD_eq_getElem?_getD, List.getElem?_eq_getElem h1, List.getElem?_eq_getElem h2] at he
  rw [show x[k] = y[k] from he]
end Go.Proofs.YtlhcljhfhkemiaaGreatDoor
