/- Numbers and their texts, plainly: what NumOf reads, what NumText writes. -/
import Derived.Lib.ItoaNum
import Derived.Lib.Join
namespace Go.Proofs.YtcjaaknnfohllaaGreatDoor

def isDig (c : UInt8) : Bool := decide (48 ≤ c.toNat ∧ c.toNat ≤ 57)
def isSgn (c : UInt8) : Bool := decide (c.toNat = 43 ∨ c.toNat = 45)
def dg (c : UInt8) : Nat := (c.toNat + 208) % 256
/-- The number of digits behind n. -/
def valFrom (n : Nat) : List UInt8 → Nat
  | [] => n
  | c :: l => valFrom (10 * n + dg c) l
def maxNum : Nat := 999999999999999999

theorem dg_le {c : UInt8} (h : isDig c = true) : dg c ≤ 9 := by
  unfold isDig at h; unfold dg
  simp only [decide_eq_true_eq] at h
  omega
theorem valFrom_nil (n : Nat) : valFrom n [] = n := rfl
theorem valFrom_cons (n : Nat) (c : UInt8) (l : List UInt8) : valFrom n (c :: l) = valFrom (10 * n + dg c) l := by rw [valFrom]
theorem valFrom_ge (l : List UInt8) : ∀ (n : Nat), n ≤ valFrom n l := by
  induction l with
  | nil => intro n; rw [valFrom_nil]; exact Nat.le_refl _
  | cons c l ih => intro n; rw [valFrom_cons]; have := ih (10 * n + dg c); omega
theorem valFrom_append (l1 l2 : List UInt8) : ∀ (n : Nat), valFrom n (l1 ++ l2) = valFrom (valFrom n l1) l2 := by
  induction l1 with
  | nil => intro n; rfl
  | cons c l ih => intro n; rw [List.cons_append, valFrom_cons, valFrom_cons, ih]
theorem valFrom_split (l : List UInt8) : ∀ (n : Nat), valFrom n l = n * 10 ^ l.length + valFrom 0 l := by
  induction l with
  | nil => intro n; rw [valFrom_nil, valFrom_nil, List.length_nil, Nat.pow_zero, Nat.mul_one, Nat.add_zero]
  | cons c l ih =>
    intro n
    rw [valFrom_cons, valFrom_cons, ih (10 * n + dg c), ih (10 * 0 + dg c), List.length_cons, Nat.pow_succ, Nat.mul_zero, Nat.zero_add, Nat.add_mul, ← Nat.add_assoc]
    congr 2
    rw [Nat.mul_comm 10 n, Nat.mul_assoc, Nat.mul_comm 10]
theorem valFrom_lt (l : List UInt8) : (∀ c ∈ l, isDig c = true) → valFrom 0 l < 10 ^ l.length := by
  induction l with
  | nil => intro _; rw [valFrom_nil]; exact Nat.one_pos
  | cons c l ih =>
    intro h
    rw [valFrom_cons, valFrom_split, List.length_cons, Nat.mul_zero, Nat.zero_add, Nat.pow_succ]
    have h1 := ih (fun x hx => h x (List.mem_cons_of_mem _ hx))
    have h2 := dg_le (h c List.mem_cons_self)
    have h3 : dg c * 10 ^ l.length ≤ 9 * 10 ^ l.length := Nat.mul_le_mul_right _ h2
    omega

/-- The program's walk over digits: it stops at the greatest number. -/
def scaledP (n : Nat) : List UInt8 → Nat
  | [] => n
  | c :: l => if (maxNum - dg c) / 10 < n then maxNum else scaledP (10 * n + dg c) l
theorem scaledP_nil (n : Nat) : scaledP n [] = n := rfl
theorem scaledP_cons (n : Nat) (c : UInt8) (l : List UInt8) : scaledP n (c :: l) = if (maxNum - dg c) / 10 < n then maxNum else scaledP (10 * n + dg c) l := rfl
theorem scaledP_eq (l : List UInt8) : ∀ (n : Nat), n ≤ maxNum → (∀ c ∈ l, isDig c = true) → scaledP n l = min maxNum (valFrom n l) := by
  induction l with
  | nil => intro n h _; rw [scaledP_nil, valFrom_nil, Nat.min_eq_right h]
  | cons c l ih =>
    intro n h hd
    rw [scaledP_cons, valFrom_cons]
    have h9 := dg_le (hd c List.mem_cons_self)
    split
    · rename_i hb
      have h1 : maxNum ≤ 10 * n + dg c := by unfold maxNum at *; omega
      have h2 := valFrom_ge l (10 * n + dg c)
      rw [Nat.min_eq_left (Nat.le_trans h1 h2)]
    · rename_i hb
      exact ih _ (by unfold maxNum at *; omega) (fun x hx => hd x (List.mem_cons_of_mem _ hx))
/-- The reference's walk over the whole digits: cut at 10^12. -/
def cutP (n : Nat) : List UInt8 → Nat
  | [] => n
  | c :: l => cutP (min (10 * n + dg c) 1000000000000) l
theorem cutP_nil (n : Nat) : cutP n [] = n := rfl
theorem cutP_cons (n : Nat) (c : UInt8) (l : List UInt8) : cutP n (c :: l) = cutP (min (10 * n + dg c) 1000000000000) l := by rw [cutP]
theorem cutP_eq (l : List UInt8) : ∀ (n : Nat), n ≤ 1000000000000 → cutP n l = min (valFrom n l) 1000000000000 := by
  induction l with
  | nil => intro n h; rw [cutP_nil, valFrom_nil, Nat.min_eq_left h]
  | cons c l ih =>
    intro n h
    rw [cutP_cons, valFrom_cons, ih _ (Nat.min_le_right _ _)]
    by_cases hb : 10 * n + dg c ≤ 1000000000000
    · rw [Nat.min_eq_left hb]
    · rw [Nat.min_eq_right (show 1000000000000 ≤ 10 * n + dg c by omega)]
      have h1 := valFrom_ge l 1000000000000
      have h2 := valFrom_ge l (10 * n + dg c)
      rw [Nat.min_eq_right h1, Nat.min_eq_right (by omega)]
/-- The reference's walk over the digits behind the point: unit by unit. -/
def fracP (n u : Nat) : List UInt8 → Nat
  | [] => n
  | c :: l => fracP (n + dg c * u) (u / 10) l
theorem fracP_nil (n u : Nat) : fracP n u [] = n := rfl
theorem fracP_cons (n u : Nat) (c : UInt8) (l : List UInt8) : fracP n u (c :: l) = fracP (n + dg c * u) (u / 10) l := rfl
theorem fracP_zero (l : List UInt8) : ∀ (n : Nat), fracP n 0 l = n := by
  induction l with
  | nil => intro n; rfl
  | cons c l ih => intro n; rw [fracP_cons, Nat.mul_zero, Nat.zero_div, Nat.add_zero, ih]
/-- k places, filled up with zeros. -/
def fillP (k : Nat) (l : List UInt8) : List UInt8 := (l ++ List.replicate k 48).take k
theorem fillP_len (k : Nat) (l : List UInt8) : (fillP k l).length = k := by unfold fillP; simp
theorem valFrom_zeros (k : Nat) : valFrom 0 (List.replicate k 48) = 0 := by
  induction k with
  | zero => rfl
  | succ k ih => rw [List.replicate_succ, valFrom_cons]; exact ih
theorem fillP_cons (k : Nat) (c : UInt8) (l : List UInt8) : fillP (k + 1) (c :: l) = c :: fillP k l := by
  unfold fillP
  rw [List.cons_append, List.take_succ_cons, List.take_append, List.take_append, List.take_replicate, List.take_replicate, Nat.min_eq_left (by omega), Nat.min_eq_left (by omega)]
theorem fillP_nil (k : Nat) : fillP k [] = List.replicate k 48 := by
  unfold fillP; rw [List.nil_append, List.take_of_length_le (by simp)]
theorem fracP_eq (l : List UInt8) : ∀ (k n : Nat), fracP n (10 ^ k) l = n + valFrom 0 (fillP (k + 1) l) := by
  induction l with
  | nil => intro k n; rw [fracP_nil, fillP_nil, valFrom_zeros, Nat.add_zero]
  | cons c l ih =>
    intro k n
    rw [fracP_cons, fillP_cons, valFrom_cons, Nat.mul_zero, Nat.zero_add]
    cases k with
    | zero =>
      rw [Nat.pow_zero, show 1 / 10 = 0 from rfl, fracP_zero]
      unfold fillP
      rw [List.take_zero, valFrom_nil, Nat.mul_one]
    | succ k =>
      rw [show 10 ^ (k + 1) / 10 = 10 ^ k by rw [Nat.pow_succ]; exact Nat.mul_div_cancel _ (by decide), ih k, valFrom_split (fillP (k + 1) l) (dg c), fillP_len, Nat.add_assoc]

/-- The parts of a text that begins with a number. -/
def wholeOf (l : List UInt8) : List UInt8 := (l.dropWhile isSgn).takeWhile isDig
def behindOf (l : List UInt8) : List UInt8 := (l.dropWhile isSgn).dropWhile isDig
def fracOf (l : List UInt8) : List UInt8 := match behindOf l with
  | c :: r => if c = 46 then r.takeWhile isDig else []
  | [] => []
def negOf (l : List UInt8) : Bool := (l.takeWhile isSgn).count 45 % 2 == 1
def absOf (l : List UInt8) : Nat := min maxNum (valFrom 0 (wholeOf l ++ fillP 6 (fracOf l)))
def numOf (l : List UInt8) : Int := if negOf l then -(absOf l : Int) else (absOf l : Int)

theorem absOf_le (l : List UInt8) : absOf l ≤ maxNum := Nat.min_le_left _ _
theorem mem_takeWhile_dig (p : UInt8 → Bool) : ∀ (l : List UInt8), ∀ c ∈ l.takeWhile p, p c = true
  | [], c, h => by cases h
  | a :: l, c, h => by
    rw [List.takeWhile_cons] at h
    split at h
    · rename_i ha
      rcases List.mem_cons.1 h with rfl | h
      · exact ha
      · exact mem_takeWhile_dig p l c h
    · cases h

/-! ### The text of a number -/
def wholeT (k : Nat) : List UInt8 := if k = 0 then [] else Go.Lib.decDigits k
def trimZ (l : List UInt8) : List UInt8 := (l.reverse.dropWhile (· == 48)).reverse
def fracT (r : Nat) : List UInt8 := if r = 0 then [] else 46 :: trimZ ((Go.Lib.decDigits (1000000 + r)).drop 1)
def absT (a : Nat) : List UInt8 := wholeT (a / 1000000) ++ fracT (a % 1000000)
def numText (n : Int) : List UInt8 := if n = 0 then [48] else if n < 0 then 45 :: absT n.natAbs else absT n.natAbs
/-- A text that is the text of its number. -/
def canonB (l : List UInt8) : Bool := decide (numText (numOf l) = l)

theorem decDigits_big {u : Nat} (h : ¬ u < 10) : Go.Lib.decDigits u = Go.Lib.decDigits (u / 10) ++ [UInt8.ofNat (48 + u % 10)] := by
  rw [Go.Lib.decDigits, dif_neg h]
theorem decDigits_small {u : Nat} (h : u < 10) : Go.Lib.decDigits u = [UInt8.ofNat (48 + u)] := by
  rw [Go.Lib.decDigits, dif_pos h]
theorem decDigits_len : ∀ (k u : Nat), u < 10 ^ (k + 1) → (Go.Lib.decDigits u).length ≤ k + 1
  | 0, u, h => by rw [decDigits_small (by simpa using h)]; exact Nat.le_refl _
  | k + 1, u, h => by
    by_cases hu : u < 10
    · rw [decDigits_small hu]; simp
    · rw [decDigits_big hu, List.length_append]
      have := decDigits_len k (u / 10) (by rw [Nat.pow_succ] at h; omega)
      simp only [List.length_cons, List.length_nil]
      omega
/-- The reference's whole part, digit by digit. -/
theorem wholeT_step (k : Nat) (h : k ≠ 0) : wholeT k = wholeT (k / 10) ++ [UInt8.ofNat (48 + k % 10)] := by
  unfold wholeT
  rw [if_neg h]
  by_cases hk : k < 10
  · rw [decDigits_small hk, if_pos (by omega), Nat.mod_eq_of_lt hk]; rfl
  · rw [decDigits_big hk, if_neg (by omega)]
theorem trimZ_snoc0 (l : List UInt8) : trimZ (l ++ [48]) = trimZ l := by
  unfold trimZ
  rw [List.reverse_append]
  rfl
theorem trimZ_snoc (l : List UInt8) (c : UInt8) (h : c ≠ 48) : trimZ (l ++ [c]) = l ++ [c] := by
  unfold trimZ
  rw [List.reverse_append]
  show (List.dropWhile _ (c :: l.reverse)).reverse = _
  rw [List.dropWhile_cons, if_neg (by simpa using h)]
  simp
theorem trimZ_len (l : List UInt8) : (trimZ l).length ≤ l.length := by
  unfold trimZ
  rw [List.length_reverse]
  have := (List.dropWhile_sublist (fun b : UInt8 => b == 48) (l := l.reverse)).length_le
  simpa using this
theorem absT_len (a : Nat) (h : a ≤ maxNum) : (absT a).length ≤ 20 := by
  unfold absT
  rw [List.length_append]
  have h1 : (wholeT (a / 1000000)).length ≤ 12 := by
    unfold wholeT
    split
    · simp
    · exact decDigits_len 11 _ (by unfold maxNum at h; omega)
  have h2 : (fracT (a % 1000000)).length ≤ 8 := by
    unfold fracT
    split
    · simp
    · rw [List.length_cons]
      have := trimZ_len ((Go.Lib.decDigits (1000000 + a % 1000000)).drop 1)
      have h3 := decDigits_len 6 (1000000 + a % 1000000) (by omega)
      rw [List.length_drop] at this
      omega
  omega
theorem numText_len (n : Int) (h : n.natAbs ≤ maxNum) : (numText n).length ≤ 21 := by
  have := absT_len n.natAbs h
  unfold numText
  split
  · simp
  split
  · rw [List.length_cons]; omega
  · omega
theorem numOf_abs (l : List UInt8) : (numOf l).natAbs ≤ maxNum := by
  have := absOf_le l
  unfold numOf
  split <;> omega
theorem canonB_long {l : List UInt8} (h : 21 < l.length) : canonB l = false := by
  unfold canonB
  have h1 := numText_len (numOf l) (numOf_abs l)
  exact decide_eq_false (fun e => by rw [e] at h1; omega)
theorem canonB_nil : canonB [] = false := by
  unfold canonB
  exact decide_eq_false (fun e => by cases (show [(48 : UInt8)] = [] from e))

/-! ### Pieces of a text -/
theorem take_while (p : UInt8 → Bool) (l : List UInt8) : l.take (l.length - (l.dropWhile p).length) = l.takeWhile p := by
  have h := List.takeWhile_append_dropWhile (p := p) (l := l)
  have h2 : l.length - (l.dropWhile p).length = (l.takeWhile p).length := by
    have := congrArg List.length h
    rw [List.length_append] at this
    omega
  have h3 : (l.takeWhile p ++ l.dropWhile p).take (l.takeWhile p).length = l.takeWhile p := List.take_left
  rw [h] at h3
  rw [h2, h3]
theorem drop_while (p : UInt8 → Bool) (l : List UInt8) : l.drop (l.takeWhile p).length = l.dropWhile p := by
  have h := List.takeWhile_append_dropWhile (p := p) (l := l)
  have h3 : (l.takeWhile p ++ l.dropWhile p).drop (l.takeWhile p).length = l.dropWhile p := List.drop_left
  rwa [h] at h3

/-! ### Printable forms -/
def showsC (c : UInt8) : Bool := decide (32 ≤ c.toNat ∧ c.toNat ≤ 126)
def quoteP (l : List UInt8) : List UInt8 := 34 :: (l.flatMap (fun c => if c = 34 then [34, 34] else [c]) ++ [34])
def codesP (l : List UInt8) : List UInt8 := 36 :: 67 :: 40 :: (Go.Lib.join (l.map fun c => Go.Lib.decDigits c.toNat) [44] ++ [41])
def formP : List UInt8 → List UInt8
  | [] => []
  | c :: l => if showsC c then quoteP (c :: l) else codesP (c :: l)
/-- The first run, what is behind it. -/
def runOf : List UInt8 → List UInt8
  | [] => []
  | c :: l => c :: l.takeWhile (fun x => showsC x == showsC c)
def runRest : List UInt8 → List UInt8
  | [] => []
  | c :: l => l.dropWhile (fun x => showsC x == showsC c)
def runsP : Nat → List UInt8 → List (List UInt8)
  | 0, _ => []
  | _ + 1, [] => []
  | k + 1, c :: l => runOf (c :: l) :: runsP k (runRest (c :: l))
def plainP (l : List UInt8) : List UInt8 := if canonB l then l else if l = [] then [34, 34] else Go.Lib.join ((runsP l.length l).map formP) [95]

end Go.Proofs.YtcjaaknnfohllaaGreatDoor
