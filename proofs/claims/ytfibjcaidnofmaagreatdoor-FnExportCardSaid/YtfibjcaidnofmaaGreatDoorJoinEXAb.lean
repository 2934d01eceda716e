/- Numbers and their texts, plainly: what NumOf reads, what NumText writes. -/
import Derived.Lib.ItoaNum
import Derived.Lib.Join
import Derived.Lib.Replace
import Derived.Lib.SlTrimSet
import Derived.Lib.Bytealg
import Derived.Lib.IndexBytes
import Derived.Test.YtfibjcaidnofmaaGreatDoorProg
import Derived.Test.YtfibjcaidnofmaaGreatDoorJoinEXAa
import Derived.Deep.DeepCutAuto
import Derived.Deep.CutBlock
namespace Go.Proofs.YtfibjcaidnofmaaGreatDoor

def isDig (c : UInt8) : Bool := decide (48 ≤ c.toNat ∧ c.toNat ≤ 57)
def isSgn (c : UInt8) : Bool := decide (c.toNat = 43 ∨ c.toNat = 45)
def dg (c : UInt8) : Nat := (c.toNat + 208) % 256
/-- The number of digits behind n. -/
def valFrom (n : Nat) : List UInt8 → Nat
  | [] => n
  | c :: l => valFrom (10 * n + dg c) l
def maxNum : Nat := 999999999999999999

theorem dg_le {c : UInt8} (h : isDig c = true) : dg c ≤ 9 := by
  unfold isDig at h; unfold dg
  simp only [decide_eq_true_eq] at h
  omega
theorem valFrom_nil (n : Nat) : valFrom n [] = n := rfl
theorem valFrom_cons (n : Nat) (c : UInt8) (l : List UInt8) : valFrom n (c :: l) = valFrom (10 * n + dg c) l := by rw [valFrom]
theorem valFrom_ge (l : List UInt8) : ∀ (n : Nat), n ≤ valFrom n l := by
  induction l with
  | nil => intro n; rw [valFrom_nil]; exact Nat.le_refl _
  | cons c l ih => intro n; rw [valFrom_cons]; have := ih (10 * n + dg c); omega
theorem valFrom_append (l1 l2 : List UInt8) : ∀ (n : Nat), valFrom n (l1 ++ l2) = valFrom (valFrom n l1) l2 := by
  induction l1 with
  | nil => intro n; rfl
  | cons c l ih => intro n; rw [List.cons_append, valFrom_cons, valFrom_cons, ih]
theorem valFrom_split (l : List UInt8) : ∀ (n : Nat), valFrom n l = n * 10 ^ l.length + valFrom 0 l := by
  induction l with
  | nil => intro n; rw [valFrom_nil, valFrom_nil, List.length_nil, Nat.pow_zero, Nat.mul_one, Nat.add_zero]
  | cons c l ih =>
    intro n
    rw [valFrom_cons, valFrom_cons, ih (10 * n + dg c), ih (10 * 0 + dg c), List.length_cons, Nat.pow_succ, Nat.mul_zero, Nat.zero_add, Nat.add_mul, ← Nat.add_assoc]
    congr 2
    rw [Nat.mul_comm 10 n, Nat.mul_assoc, Nat.mul_comm 10]
theorem valFrom_lt (l : List UInt8) : (∀ c ∈ l, isDig c = true) → valFrom 0 l < 10 ^ l.length := by
  induction l with
  | nil => intro _; rw [valFrom_nil]; exact Nat.one_pos
  | cons c l ih =>
    intro h
    rw [valFrom_cons, valFrom_split, List.length_cons, Nat.mul_zero, Nat.zero_add, Nat.pow_succ]
    have h1 := ih (fun x hx => h x (List.mem_cons_of_mem _ hx))
    have h2 := dg_le (h c List.mem_cons_self)
    have h3 : dg c * 10 ^ l.length ≤ 9 * 10 ^ l.length := Nat.mul_le_mul_right _ h2
    omega

/-- The program's walk over digits: it stops at the greatest number. -/
def scaledP (n : Nat) : List UInt8 → Nat
  | [] => n
  | c :: l => if (maxNum - dg c) / 10 < n then maxNum else scaledP (10 * n + dg c) l
theorem scaledP_nil (n : Nat) : scaledP n [] = n := rfl
theorem scaledP_cons (n : Nat) (c : UInt8) (l : List UInt8) : scaledP n (c :: l) = if (maxNum - dg c) / 10 < n then maxNum else scaledP (10 * n + dg c) l := rfl
theorem scaledP_eq (l : List UInt8) : ∀ (n : Nat), n ≤ maxNum → (∀ c ∈ l, isDig c = true) → scaledP n l = min maxNum (valFrom n l) := by
  induction l with
  | nil => intro n h _; rw [scaledP_nil, valFrom_nil, Nat.min_eq_right h]
  | cons c l ih =>
    intro n h hd
    rw [scaledP_cons, valFrom_cons]
    have h9 := dg_le (hd c List.mem_cons_self)
    split
    · rename_i hb
      have h1 : maxNum ≤ 10 * n + dg c := by unfold maxNum at *; omega
      have h2 := valFrom_ge l (10 * n + dg c)
      rw [Nat.min_eq_left (Nat.le_trans h1 h2)]
    · rename_i hb
      exact ih _ (by unfold maxNum at *; omega) (fun x hx => hd x (List.mem_cons_of_mem _ hx))
/-- The reference's walk over the whole digits: cut at 10^12. -/
def cutP (n : Nat) : List UInt8 → Nat
  | [] => n
  | c :: l => cutP (min (10 * n + dg c) 1000000000000) l
theorem cutP_nil (n : Nat) : cutP n [] = n := rfl
theorem cutP_cons (n : Nat) (c : UInt8) (l : List UInt8) : cutP n (c :: l) = cutP (min (10 * n + dg c) 1000000000000) l := by rw [cutP]
theorem cutP_eq (l : List UInt8) : ∀ (n : Nat), n ≤ 1000000000000 → cutP n l = min (valFrom n l) 1000000000000 := by
  induction l with
  | nil => intro n h; rw [cutP_nil, valFrom_nil, Nat.min_eq_left h]
  | cons c l ih =>
    intro n h
    rw [cutP_cons, valFrom_cons, ih _ (Nat.min_le_right _ _)]
    by_cases hb : 10 * n + dg c ≤ 1000000000000
    · rw [Nat.min_eq_left hb]
    · rw [Nat.min_eq_right (show 1000000000000 ≤ 10 * n + dg c by omega)]
      have h1 := valFrom_ge l 1000000000000
      have h2 := valFrom_ge l (10 * n + dg c)
      rw [Nat.min_eq_right h1, Nat.min_eq_right (by omega)]
/-- The reference's walk over the digits behind the point: unit by unit. -/
def fracP (n u : Nat) : List UInt8 → Nat
  | [] => n
  | c :: l => fracP (n + dg c * u) (u / 10) l
theorem fracP_nil (n u : Nat) : fracP n u [] = n := rfl
theorem fracP_cons (n u : Nat) (c : UInt8) (l : List UInt8) : fracP n u (c :: l) = fracP (n + dg c * u) (u / 10) l := rfl
theorem fracP_zero (l : List UInt8) : ∀ (n : Nat), fracP n 0 l = n := by
  induction l with
  | nil => intro n; rfl
  | cons c l ih => intro n; rw [fracP_cons, Nat.mul_zero, Nat.zero_div, Nat.add_zero, ih]
/-- k places, filled up with zeros. -/
def fillP (k : Nat) (l : List UInt8) : List UInt8 := (l ++ List.replicate k 48).take k
theorem fillP_len (k : Nat) (l : List UInt8) : (fillP k l).length = k := by unfold fillP; simp
theorem valFrom_zeros (k : Nat) : valFrom 0 (List.replicate k 48) = 0 := by
  induction k with
  | zero => rfl
  | succ k ih => rw [List.replicate_succ, valFrom_cons]; exact ih
theorem fillP_cons (k : Nat) (c : UInt8) (l : List UInt8) : fillP (k + 1) (c :: l) = c :: fillP k l := by
  unfold fillP
  rw [List.cons_append, List.take_succ_cons, List.take_append, List.take_append, List.take_replicate, List.take_replicate, Nat.min_eq_left (by omega), Nat.min_eq_left (by omega)]
theorem fillP_nil (k : Nat) : fillP k [] = List.replicate k 48 := by
  unfold fillP; rw [List.nil_append, List.take_of_length_le (by simp)]
theorem fracP_eq (l : List UInt8) : ∀ (k n : Nat), fracP n (10 ^ k) l = n + valFrom 0 (fillP (k + 1) l) := by
  induction l with
  | nil => intro k n; rw [fracP_nil, fillP_nil, valFrom_zeros, Nat.add_zero]
  | cons c l ih =>
    intro k n
    rw [fracP_cons, fillP_cons, valFrom_cons, Nat.mul_zero, Nat.zero_add]
    cases k with
    | zero =>
      rw [Nat.pow_zero, show 1 / 10 = 0 from rfl, fracP_zero]
      unfold fillP
      rw [List.take_zero, valFrom_nil, Nat.mul_one]
    | succ k =>
      rw [show 10 ^ (k + 1) / 10 = 10 ^ k by rw [Nat.pow_succ]; exact Nat.mul_div_cancel _ (by decide), ih k, valFrom_split (fillP (k + 1) l) (dg c), fillP_len, Nat.add_assoc]

/-- The parts of a text that begins with a number. -/
def wholeOf (l : List UInt8) : List UInt8 := (l.dropWhile isSgn).takeWhile isDig
def behindOf (l : List UInt8) : List UInt8 := (l.dropWhile isSgn).dropWhile isDig
def fracOf (l : List UInt8) : List UInt8 := match behindOf l with
  | c :: r => if c = 46 then r.takeWhile isDig else []
  | [] => []
def negOf (l : List UInt8) : Bool := (l.takeWhile isSgn).count 45 % 2 == 1
def absOf (l : List UInt8) : Nat := min maxNum (valFrom 0 (wholeOf l ++ fillP 6 (fracOf l)))
def numOf (l : List UInt8) : Int := if negOf l then -(absOf l : Int) else (absOf l : Int)

theorem absOf_le (l : List UInt8) : absOf l ≤ maxNum := Nat.min_le_left _ _
theorem mem_takeWhile_dig (p : UInt8 → Bool) : ∀ (l : List UInt8), ∀ c ∈ l.takeWhile p, p c = true
  | [], c, h => by cases h
  | a :: l, c, h => by
    rw [List.takeWhile_cons] at h
    split at h
    · rename_i ha
      rcases List.mem_cons.1 h with rfl | h
      · exact ha
      · exact mem_takeWhile_dig p l c h
    · cases h

/-! ### The text of a number -/
def wholeT (k : Nat) : List UInt8 := if k = 0 then [] else Go.Lib.decDigits k
def trimZ (l : List UInt8) : List UInt8 := (l.reverse.dropWhile (· == 48)).reverse
def fracT (r : Nat) : List UInt8 := if r = 0 then [] else 46 :: trimZ ((Go.Lib.decDigits (1000000 + r)).drop 1)
def absT (a : Nat) : List UInt8 := wholeT (a / 1000000) ++ fracT (a % 1000000)
def numText (n : Int) : List UInt8 := if n = 0 then [48] else if n < 0 then 45 :: absT n.natAbs else absT n.natAbs
/-- A text that is the text of its number. -/
def canonB (l : List UInt8) : Bool := decide (numText (numOf l) = l)

theorem decDigits_big {u : Nat} (h : ¬ u < 10) : Go.Lib.decDigits u = Go.Lib.decDigits (u / 10) ++ [UInt8.ofNat (48 + u % 10)] := by
  rw [Go.Lib.decDigits, dif_neg h]
theorem decDigits_small {u : Nat} (h : u < 10) : Go.Lib.decDigits u = [UInt8.ofNat (48 + u)] := by
  rw [Go.Lib.decDigits, dif_pos h]
theorem decDigits_len : ∀ (k u : Nat), u < 10 ^ (k + 1) → (Go.Lib.decDigits u).length ≤ k + 1
  | 0, u, h => by rw [decDigits_small (by simpa using h)]; exact Nat.le_refl _
  | k + 1, u, h => by
    by_cases hu : u < 10
    · rw [decDigits_small hu]; simp
    · rw [decDigits_big hu, List.length_append]
      have := decDigits_len k (u / 10) (by rw [Nat.pow_succ] at h; omega)
      simp only [List.length_cons, List.length_nil]
      omega
/-- The reference's whole part, digit by digit. -/
theorem wholeT_step (k : Nat) (h : k ≠ 0) : wholeT k = wholeT (k / 10) ++ [UInt8.ofNat (48 + k % 10)] := by
  unfold wholeT
  rw [if_neg h]
  by_cases hk : k < 10
  · rw [decDigits_small hk, if_pos (by omega), Nat.mod_eq_of_lt hk]; rfl
  · rw [decDigits_big hk, if_neg (by omega)]
theorem trimZ_snoc0 (l : List UInt8) : trimZ (l ++ [48]) = trimZ l := by
  unfold trimZ
  rw [List.reverse_append]
  rfl
theorem trimZ_snoc (l : List UInt8) (c : UInt8) (h : c ≠ 48) : trimZ (l ++ [c]) = l ++ [c] := by
  unfold trimZ
  rw [List.reverse_append]
  show (List.dropWhile _ (c :: l.reverse)).reverse = _
  rw [List.dropWhile_cons, if_neg (by simpa using h)]
  simp
theorem trimZ_len (l : List UInt8) : (trimZ l).length ≤ l.length := by
  unfold trimZ
  rw [List.length_reverse]
  have := (List.dropWhile_sublist (fun b : UInt8 => b == 48) (l := l.reverse)).length_le
  simpa using this
theorem absT_len (a : Nat) (h : a ≤ maxNum) : (absT a).length ≤ 20 := by
  unfold absT
  rw [List.length_append]
  have h1 : (wholeT (a / 1000000)).length ≤ 12 := by
    unfold wholeT
    split
    · simp
    · exact decDigits_len 11 _ (by unfold maxNum at h; omega)
  have h2 : (fracT (a % 1000000)).length ≤ 8 := by
    unfold fracT
    split
    · simp
    · rw [List.length_cons]
      have := trimZ_len ((Go.Lib.decDigits (1000000 + a % 1000000)).drop 1)
      have h3 := decDigits_len 6 (1000000 + a % 1000000) (by omega)
      rw [List.length_drop] at this
      omega
  omega
theorem numText_len (n : Int) (h : n.natAbs ≤ maxNum) : (numText n).length ≤ 21 := by
  have := absT_len n.natAbs h
  unfold numText
  split
  · simp
  split
  · rw [List.length_cons]; omega
  · omega
theorem numOf_abs (l : List UInt8) : (numOf l).natAbs ≤ maxNum := by
  have := absOf_le l
  unfold numOf
  split <;> omega
theorem canonB_long {l : List UInt8} (h : 21 < l.length) : canonB l = false := by
  unfold canonB
  have h1 := numText_len (numOf l) (numOf_abs l)
  exact decide_eq_false (fun e => by rw [e] at h1; omega)
theorem canonB_nil : canonB [] = false := by
  unfold canonB
  exact decide_eq_false (fun e => by cases (show [(48 : UInt8)] = [] from e))

/-! ### Pieces of a text -/
theorem take_while (p : UInt8 → Bool) (l : List UInt8) : l.take (l.length - (l.dropWhile p).length) = l.takeWhile p := by
  have h := List.takeWhile_append_dropWhile (p := p) (l := l)
  have h2 : l.length - (l.dropWhile p).length = (l.takeWhile p).length := by
    have := congrArg List.length h
    rw [List.length_append] at this
    omega
  have h3 : (l.takeWhile p ++ l.dropWhile p).take (l.takeWhile p).length = l.takeWhile p := List.take_left
  rw [h] at h3
  rw [h2, h3]
theorem drop_while (p : UInt8 → Bool) (l : List UInt8) : l.drop (l.takeWhile p).length = l.dropWhile p := by
  have h := List.takeWhile_append_dropWhile (p := p) (l := l)
  have h3 : (l.takeWhile p ++ l.dropWhile p).drop (l.takeWhile p).length = l.dropWhile p := List.drop_left
  rwa [h] at h3

/-! ### Printable forms -/
def showsC (c : UInt8) : Bool := decide (32 ≤ c.toNat ∧ c.toNat ≤ 126)
def quoteP (l : List UInt8) : List UInt8 := 34 :: (l.flatMap (fun c => if c = 34 then [34, 34] else [c]) ++ [34])
def codesP (l : List UInt8) : List UInt8 := 36 :: 67 :: 40 :: (Go.Lib.join (l.map fun c => Go.Lib.decDigits c.toNat) [44] ++ [41])
def formP : List UInt8 → List UInt8
  | [] => []
  | c :: l => if showsC c then quoteP (c :: l) else codesP (c :: l)
/-- The first run, what is behind it. -/
def runOf : List UInt8 → List UInt8
  | [] => []
  | c :: l => c :: l.takeWhile (fun x => showsC x == showsC c)
def runRest : List UInt8 → List UInt8
  | [] => []
  | c :: l => l.dropWhile (fun x => showsC x == showsC c)
def runsP : Nat → List UInt8 → List (List UInt8)
  | 0, _ => []
  | _ + 1, [] => []
  | k + 1, c :: l => runOf (c :: l) :: runsP k (runRest (c :: l))
def plainP (l : List UInt8) : List UInt8 := if canonB l then l else if l = [] then [34, 34] else Go.Lib.join ((runsP l.length l).map formP) [95]

end Go.Proofs.YtfibjcaidnofmaaGreatDoor

/- Numbers and printable forms, plainly: what the library's functions and the walks yield is what NumP says. -/
namespace Go.Proofs.YtfibjcaidnofmaaGreatDoor

theorem u8_eq {c d : UInt8} (h : c.toNat = d.toNat) : c = d := UInt8.toNat_inj.1 h
theorem contains_sgn (c : UInt8) : ([43, 45] : List UInt8).contains c = isSgn c := by
  unfold isSgn
  rw [Bool.eq_iff_iff]
  simp only [List.contains_iff_mem, List.mem_cons, List.not_mem_nil, or_false, decide_eq_true_eq]
  constructor
  · rintro (rfl | rfl)
    · exact .inl rfl
    · exact .inr rfl
  · rintro (h | h)
    · exact .inl (u8_eq h)
    · exact .inr (u8_eq h)
theorem contains_dig (c : UInt8) : ([48, 49, 50, 51, 52, 53, 54, 55, 56, 57] : List UInt8).contains c = isDig c := by
  unfold isDig
  rw [Bool.eq_iff_iff]
  simp only [List.contains_iff_mem, List.mem_cons, List.not_mem_nil, or_false, decide_eq_true_eq]
  constructor
  · rintro (rfl | rfl | rfl | rfl | rfl | rfl | rfl | rfl | rfl | rfl) <;> decide
  · rintro ⟨h1, h2⟩
    have : c.toNat = 48 ∨ c.toNat = 49 ∨ c.toNat = 50 ∨ c.toNat = 51 ∨ c.toNat = 52 ∨ c.toNat = 53 ∨ c.toNat = 54 ∨ c.toNat = 55 ∨ c.toNat = 56 ∨ c.toNat = 57 := by omega
    rcases this with h | h | h | h | h | h | h | h | h | h
    · exact .inl (u8_eq h)
    · exact .inr (.inl (u8_eq h))
    · exact .inr (.inr (.inl (u8_eq h)))
    · exact .inr (.inr (.inr (.inl (u8_eq h))))
    · exact .inr (.inr (.inr (.inr (.inl (u8_eq h)))))
    · exact .inr (.inr (.inr (.inr (.inr (.inl (u8_eq h))))))
    · exact .inr (.inr (.inr (.inr (.inr (.inr (.inl (u8_eq h)))))))
    · exact .inr (.inr (.inr (.inr (.inr (.inr (.inr (.inl (u8_eq h))))))))
    · exact .inr (.inr (.inr (.inr (.inr (.inr (.inr (.inr (.inl (u8_eq h)))))))))
    · exact .inr (.inr (.inr (.inr (.inr (.inr (.inr (.inr (.inr (u8_eq h)))))))))
theorem trimLeft_sgn (l : List UInt8) : Go.Lib.trimLeftS l [43, 45] = l.dropWhile isSgn := by
  unfold Go.Lib.trimLeftS
  congr 1
  funext c
  exact contains_sgn c
theorem trimLeft_dig (l : List UInt8) : Go.Lib.trimLeftS l [48, 49, 50, 51, 52, 53, 54, 55, 56, 57] = l.dropWhile isDig := by
  unfold Go.Lib.trimLeftS
  congr 1
  funext c
  exact contains_dig c

/-- Where a walk that goes on while p holds stands still. -/
theorem span_exit (p : UInt8 → Bool) : ∀ (l : List UInt8) (i : Nat), i ≤ l.length → (∀ c ∈ l.take i, p c = true) → (∀ c, l[i]? = some c → p c = false) → l.takeWhile p = l.take i ∧ l.dropWhile p = l.drop i
  | l, 0, _, _, hx => by
    rw [List.take_zero, List.drop_zero]
    cases l with
    | nil => exact ⟨rfl, rfl⟩
    | cons a l =>
      have := hx a rfl
      rw [List.takeWhile_cons, List.dropWhile_cons, this]
      exact ⟨rfl, rfl⟩
  | [], i + 1, h, _, _ => by cases h
  | a :: l, i + 1, h, hp, hx => by
    have ha := hp a (by rw [List.take_succ_cons]; exact List.mem_cons_self)
    obtain ⟨h1, h2⟩ := span_exit p l i (by simpa using h) (fun c hc => hp c (by rw [List.take_succ_cons]; exact List.mem_cons_of_mem _ hc)) (fun c hc => hx c hc)
    rw [List.takeWhile_cons, List.dropWhile_cons, ha, if_pos rfl, if_pos rfl, h1, h2, List.take_succ_cons, List.drop_succ_cons]
    exact ⟨rfl, rfl⟩
theorem span_step (p : UInt8 → Bool) (l : List UInt8) (i : Nat) (c : UInt8) (hc : l[i]? = some c) (hp : ∀ c ∈ l.take i, p c = true) (h : p c = true) : ∀ c ∈ l.take (i + 1), p c = true := by
  intro x hx
  rw [List.take_add_one, hc] at hx
  rcases List.mem_append.1 hx with hx | hx
  · exact hp x hx
  · simp at hx; rw [hx]; exact h

/-! ### One byte replaced by two -/
def doubled (l : List UInt8) : List UInt8 := l.flatMap (fun c => if c = 34 then [34, 34] else [c])
theorem index_cons (b c : UInt8) (l : List UInt8) : Go.Lib.index (b :: l) [c] = if b = c then 0 else if Go.Lib.index l [c] = -1 then -1 else Go.Lib.index l [c] + 1 := by
  rw [Go.Lib.index]
  by_cases h : b = c
  · subst h
    rw [if_pos (by simp [List.isPrefixOf]), if_pos rfl]
  · rw [if_neg (by simpa [List.isPrefixOf] using fun e => h e.symm), if_neg h]
    simp
theorem replaceK_one : ∀ (l : List UInt8) (k : Nat), l.count 34 ≤ k → Go.Lib.replaceK [34] [34, 34] k l = doubled l
  | [], k, _ => by
    cases k with
    | zero => rfl
    | succ k => unfold Go.Lib.replaceK; rw [if_pos (by rfl)]; rfl
  | b :: l, k, h => by
    by_cases hb : b = 34
    · subst hb
      rw [List.count_cons_self] at h
      obtain ⟨k, rfl⟩ : ∃ m, k = m + 1 := ⟨k - 1, by omega⟩
      rw [Go.Lib.replaceK_hit [34] [34, 34] k (34 :: l) 0 (by rw [index_cons, if_pos rfl]; rfl)]
      show [34, 34] ++ Go.Lib.replaceK [34] [34, 34] k l = _
      rw [replaceK_one l k (by omega)]
      rfl
    · rw [List.count_cons_of_ne hb] at h
      have hd : doubled (b :: l) = b :: doubled l := by unfold doubled; rw [List.flatMap_cons, if_neg hb]; rfl
      rw [hd, ← replaceK_one l k h]
      cases k with
      | zero => rfl
      | succ k =>
        by_cases hm : Go.Lib.index l [34] = -1
        · unfold Go.Lib.replaceK
          rw [index_cons, if_neg hb, if_pos hm, hm]; rfl
        · obtain ⟨i, hi⟩ : ∃ i : Nat, Go.Lib.index l [34] = i := ⟨(Go.Lib.index l [34]).toNat, by have := Go.Lib.index_ge l [34]; omega⟩
          rw [Go.Lib.replaceK_hit [34] [34, 34] k l i hi, Go.Lib.replaceK_hit [34] [34, 34] k (b :: l) (i + 1) (by rw [index_cons, if_neg hb, if_neg hm, hi]; rfl)]
          rw [List.take_succ_cons]
          show b :: l.take i ++ [34, 34] ++ Go.Lib.replaceK [34] [34, 34] k (l.drop (i + 1)) = b :: (l.take i ++ [34, 34] ++ Go.Lib.replaceK [34] [34, 34] k (l.drop (i + 1)))
          rfl
theorem replaceAll_quote (l : List UInt8) : Go.Lib.replaceAll l [34] [34, 34] = doubled l := by
  unfold Go.Lib.replaceAll Go.Lib.replace
  rw [if_neg (by decide)]
  unfold Go.Lib.replaceNum
  rw [if_pos (.inl (by decide)), Go.Lib.count_one]
  exact replaceK_one l _ (Nat.le_refl _)
theorem quoteP_eq (l : List UInt8) : quoteP l = 34 :: (doubled l ++ [34]) := rfl

/-! ### The forms, one behind another -/
theorem join_cons (x : List UInt8) (xs : List (List UInt8)) (sep : List UInt8) : Go.Lib.join (x :: xs) sep = x ++ (xs.map (sep ++ ·)).flatten := by
  unfold Go.Lib.join
  induction xs generalizing x with
  | nil => simp [List.intercalate]
  | cons y ys ih =>
    have := ih y
    simp only [List.intercalate, List.intersperse] at this ⊢
    simp only [List.flatten_cons, List.map_cons, List.append_assoc] at this ⊢
    rw [this]
theorem runRest_len : ∀ (l : List UInt8), l ≠ [] → (runRest l).length < l.length
  | [], h => absurd rfl h
  | c :: l, _ => by
    show (l.dropWhile (fun x => showsC x == showsC c)).length < (c :: l).length
    have := (List.dropWhile_sublist (fun x => showsC x == showsC c) (l := l)).length_le
    rw [List.length_cons]
    omega
theorem runs_split : ∀ (l : List UInt8), l ≠ [] → runOf l ++ runRest l = l
  | [], h => absurd rfl h
  | c :: l, _ => by
    unfold runOf runRest
    rw [List.cons_append, List.takeWhile_append_dropWhile]
/-- The forms behind the first. -/
def moreP : Nat → List UInt8 → List UInt8
  | 0, _ => []
  | _ + 1, [] => []
  | k + 1, c :: l => 95 :: (formP (runOf (c :: l)) ++ moreP k (runRest (c :: l)))
theorem moreP_eq : ∀ (k : Nat) (l : List UInt8), moreP k l = (((runsP k l).map formP).map ([95] ++ ·)).flatten
  | 0, _ => rfl
  | _ + 1, [] => rfl
  | k + 1, c :: l => by
    unfold moreP runsP
    rw [moreP_eq k, List.map_cons, List.map_cons, List.flatten_cons]
    rfl
theorem runsP_fuel : ∀ (k m : Nat) (l : List UInt8), l.length ≤ k → l.length ≤ m → runsP k l = runsP m l
  | 0, m, l, h, _ => by
    obtain rfl := List.eq_nil_of_length_eq_zero (Nat.le_zero.1 h)
    cases m <;> rfl
  | k + 1, 0, l, _, h => by
    obtain rfl := List.eq_nil_of_length_eq_zero (Nat.le_zero.1 h)
    rfl
  | k + 1, m + 1, [], _, _ => rfl
  | k + 1, m + 1, c :: l, h1, h2 => by
    unfold runsP
    have := runRest_len (c :: l) (by simp)
    rw [runsP_fuel k m _ (by omega) (by omega)]
/-- plainP at a text that is not its number's. -/
theorem plainP_runs {l : List UInt8} (h : canonB l = false) (hl : l ≠ []) : plainP l = formP (runOf l) ++ moreP l.length (runRest l) := by
  unfold plainP
  rw [h, if_neg (by decide), if_neg hl]
  cases l with
  | nil => exact absurd rfl hl
  | cons c l =>
    rw [List.length_cons]
    unfold runsP
    rw [List.map_cons, join_cons, moreP_eq]
    have := runRest_len (c :: l) (by simp)
    rw [runsP_fuel l.length (l.length + 1) _ (by simp only [List.length_cons] at this; omega) (by simp only [List.length_cons] at this; omega)]

/-! ### Both readings of a number -/
theorem wholeOf_dig (l : List UInt8) : ∀ c ∈ wholeOf l, isDig c = true := fun c h => mem_takeWhile_dig isDig _ c h
theorem fracOf_dig (l : List UInt8) : ∀ c ∈ fracOf l, isDig c = true := by
  unfold fracOf
  split
  · split
    · exact fun c h => mem_takeWhile_dig isDig _ c h
    · exact fun c h => by cases h
  · exact fun c h => by cases h
theorem fillP_dig (k : Nat) (l : List UInt8) (h : ∀ c ∈ l, isDig c = true) : ∀ c ∈ fillP k l, isDig c = true := by
  intro c hc
  rcases List.mem_append.1 (List.mem_of_mem_take hc) with h1 | h1
  · exact h c h1
  · rw [(List.mem_replicate.1 h1).2]; decide
/-- The program's. -/
theorem scaled_abs (l : List UInt8) : scaledP 0 (wholeOf l ++ fillP 6 (fracOf l)) = absOf l := by
  rw [scaledP_eq _ 0 (Nat.zero_le _)]
  · rfl
  · intro c hc
    rcases List.mem_append.1 hc with h | h
    · exact wholeOf_dig l c h
    · exact fillP_dig 6 _ (fracOf_dig l) c h
/-- The reference's. -/
theorem cut_abs (l : List UInt8) : min (fracP (min (cutP 0 (wholeOf l) * 1000000) (maxNum + 1)) 100000 (fracOf l)) maxNum = absOf l := by
  have h1 : valFrom 0 (wholeOf l ++ fillP 6 (fracOf l)) = valFrom 0 (wholeOf l) * 1000000 + valFrom 0 (fillP 6 (fracOf l)) := by
    rw [valFrom_append, valFrom_split (fillP 6 (fracOf l)) (valFrom 0 (wholeOf l)), fillP_len]
  have h2 := valFrom_lt (fillP 6 (fracOf l)) (fillP_dig 6 _ (fracOf_dig l))
  rw [fillP_len] at h2
  have h3 := fracP_eq (fracOf l) 5 (min (cutP 0 (wholeOf l) * 1000000) (maxNum + 1))
  rw [show 10 ^ 5 = 100000 from rfl] at h3
  rw [h3, cutP_eq _ 0 (by decide)]
  unfold absOf
  rw [h1]
  generalize valFrom 0 (wholeOf l) = a at *
  generalize valFrom 0 (fillP 6 (fracOf l)) = b at *
  unfold maxNum
  omega
/-- Where no point stands behind the digits. -/
theorem fracOf_none {l : List UInt8} (h : ∀ r, behindOf l ≠ 46 :: r) : fracOf l = [] := by
  unfold fracOf
  split
  · rename_i c r he
    rw [if_neg (fun e => h r (by rw [he, e]))]
  · rfl
theorem fracOf_point {l r : List UInt8} (h : behindOf l = 46 :: r) : fracOf l = r.takeWhile isDig := by
  unfold fracOf
  rw [h]
  exact if_pos rfl

/-! ### What the loops over a text build -/
theorem run_exit (c : UInt8) (r : List UInt8) (m : Nat) (hm : m ≤ (c :: r).length) (hp : ∀ x ∈ (c :: r).take m, showsC x = showsC c) (hx : ∀ x, (c :: r)[m]? = some x → showsC x ≠ showsC c) :
    runOf (c :: r) = (c :: r).take m ∧ runRest (c :: r) = (c :: r).drop m := by
  obtain ⟨h1, h2⟩ := span_exit (fun x => showsC x == showsC c) (c :: r) m hm (fun x h => by simpa using hp x h) (fun x h => by simpa using hx x h)
  rw [← h1, ← h2, List.takeWhile_cons, List.dropWhile_cons, if_pos (by simp), if_pos (by simp)]
  exact ⟨rfl, rfl⟩
theorem doubled_append (a b : List UInt8) : doubled (a ++ b) = doubled a ++ doubled b := by unfold doubled; rw [List.flatMap_append]
theorem doubled_snoc_quote (l : List UInt8) : doubled (l ++ [34]) = doubled l ++ [34, 34] := by rw [doubled_append]; rfl
theorem doubled_snoc {c : UInt8} (l : List UInt8) (h : c ≠ 34) : doubled (l ++ [c]) = doubled l ++ [c] := by
  rw [doubled_append]
  unfold doubled
  rw [List.flatMap_cons, if_neg h]
  rfl
theorem join_snoc (x : List UInt8) (xs : List (List UInt8)) (sep : List UInt8) (h : xs ≠ []) : Go.Lib.join (xs ++ [x]) sep = Go.Lib.join xs sep ++ (sep ++ x) := by
  cases xs with
  | nil => exact absurd rfl h
  | cons y ys =>
    rw [List.cons_append, join_cons, join_cons, List.map_append, List.flatten_append]
    simp
theorem join_one (x sep : List UInt8) : Go.Lib.join [x] sep = x := by rw [join_cons]; simp
/-- Numbers of bytes, one behind another. -/
def codesTo (l : List UInt8) : List UInt8 := Go.Lib.join (l.map fun c => Go.Lib.decDigits c.toNat) [44]
theorem codesTo_first (c : UInt8) : codesTo [c] = Go.Lib.decDigits c.toNat := join_one _ _
theorem codesTo_snoc (l : List UInt8) (c : UInt8) (h : l ≠ []) : codesTo (l ++ [c]) = codesTo l ++ 44 :: Go.Lib.decDigits c.toNat := by
  unfold codesTo
  rw [List.map_append, List.map_cons, List.map_nil, join_snoc _ _ _ (by simpa using h)]
  rfl
theorem codesP_eq (l : List UInt8) : codesP l = 36 :: 67 :: 40 :: (codesTo l ++ [41]) := rfl
/-- One run more. -/
theorem moreP_step (k : Nat) (l : List UInt8) (h : l ≠ []) (hk : l.length ≤ k) : moreP k l = 95 :: (formP (runOf l) ++ moreP k (runRest l)) := by
  cases l with
  | nil => exact absurd rfl h
  | cons c l =>
    obtain ⟨m, rfl⟩ : ∃ m, k = m + 1 := ⟨k - 1, by simp only [List.length_cons] at hk; omega⟩
    have h1 := runRest_len (c :: l) h
    rw [show moreP (m + 1) (c :: l) = 95 :: (formP (runOf (c :: l)) ++ moreP m (runRest (c :: l))) from rfl, moreP_eq m, moreP_eq (m + 1), runsP_fuel m (m + 1) _ (by omega) (by omega)]
theorem moreP_nil (k : Nat) : moreP k [] = [] := by cases k <;> rfl

end Go.Proofs.YtfibjcaidnofmaaGreatDoor

/- The reference's numbers walked: l01Digit, l00Min, l01Of. -/
namespace Go.Proofs.YtfibjcaidnofmaaGreatDoor
open Go.RowKit

set_option maxHeartbeats 4000000 in
theorem l01DigitB_any (c : UInt8) (w : World) : Calls Tryz.prog 211 #[.int .u8 c.toNat] w fun e w' => e = .returned (.bool (isDig c)) ∧ w = w' := by
  have hd : isDig c = decide (48 ≤ c.toNat ∧ c.toNat ≤ 57) := rfl
  by_cases h1 : (48 : Int) ≤ (c.toNat : Int)
  · by_cases h2 : (c.toNat : Int) ≤ 57
    · rw [hd, decide_eq_true (by omega)]
      clear hd
      go_enter Tryz.func211, Tryz.ntmps211
      go_wp2_with fail
      go_ret
      exact ⟨rfl, rfl⟩
    · rw [hd, decide_eq_false (by omega)]
      clear hd
      go_enter Tryz.func211, Tryz.ntmps211
      go_wp2_with fail
      go_ret
      exact ⟨rfl, rfl⟩
  · rw [hd, decide_eq_false (by omega)]
    clear hd
    go_enter Tryz.func211, Tryz.ntmps211
    go_wp2_with fail
    go_ret
    exact ⟨rfl, rfl⟩

set_option maxHeartbeats 4000000 in
theorem l00Min_any (a b : Int) (w : World) : Calls Tryz.prog 228 #[.int .i64 a, .int .i64 b] w fun e w' => e = .returned (.int .i64 (min a b)) ∧ w = w' := by
  by_cases h : a < b
  · rw [show min a b = a by omega]
    go_enter Tryz.func228, Tryz.ntmps228
    go_wp2_with fail
    go_ret
    exact ⟨rfl, rfl⟩
  · rw [show min a b = b by omega]
    go_enter Tryz.func228, Tryz.ntmps228
    go_wp2_with fail
    go_ret
    exact ⟨rfl, rfl⟩

/-- A point stands behind the digits. -/
def pointB (l : List UInt8) : Bool := match behindOf l with
  | c :: _ => c == 46
  | [] => false
theorem cutP_snoc (l : List UInt8) (c : UInt8) : ∀ n, cutP n (l ++ [c]) = min (10 * cutP n l + dg c) 1000000000000 := by
  induction l with
  | nil => intro n; rw [List.nil_append, cutP_cons, cutP_nil, cutP_nil]
  | cons a l ih => intro n; rw [List.cons_append, cutP_cons, cutP_cons, ih]
theorem take_snoc' (l : List UInt8) (i : Nat) (c : UInt8) (h : l[i]? = some c) : l.take (i + 1) = l.take i ++ [c] := by
  rw [List.take_add_one, h]; rfl
theorem get_list (s : ByteArray) (i : Nat) (h : i < s.size) : s.data.toList[i]? = some s[i] := by
  rw [Array.getElem?_toList]
  exact Array.getElem?_eq_getElem h

set_option maxHeartbeats 8000000 in
set_option maxRecDepth 100000 in
theorem l01Of_any (s : ByteArray) (hs : s.size ≤ 1048576) (w : World) : Calls Tryz.prog 202 #[.string s] w fun e w' => e = .returned (.int .i64 (numOf s.data.toList)) ∧ Below w.heap.size w w' := by
  have hD := fun c W => l01DigitB_any c W
  have HD := Lib.hid hD; clear hD
  go_enter Tryz.func202, Tryz.ntmps202
  go_upto_block 0 with (fail)
  go_cut [3, 4] (fun a m wr => a = .int .i64 ((s.data.toList.takeWhile isSgn).length : Nat) ∧ m = .bool (negOf s.data.toList) ∧ Below w.heap.size w wr)
  case first =>
    go_wp2_with fail
    go_loopw [3, 4] (fun a m wr => ∃ i : Nat, i ≤ s.size ∧ a = .int .i64 i ∧ m = .bool ((s.data.toList.take i).count 45 % 2 == 1) ∧ (∀ c ∈ s.data.toList.take i, isSgn c = true) ∧ Below w.heap.size w wr) (fun a _ _ => s.size - (intOf a).toNat)
    case atStart => exact ⟨0, Nat.zero_le _, rfl, rfl, fun c h => by simp at h, Below.refl _ _⟩
    case round =>
      obtain ⟨i, hi, rfl, rfl, hsg, hbw⟩ := hrel
      have HSG := Lib.hid hsg; have HBW := Lib.hid hbw; clear hsg hbw
      generalize hneg : ((s.data.toList.take i).count 45 % 2 == 1) = neg at *
      have HNEG := Lib.hid hneg; clear hneg
      by_cases hlt : i < s.size
      · have i1 : (i : Int) < (s.size : Int) := by omega
        have i0 : (0 : Int) ≤ (i : Int) := by omega
        have HG := Lib.hid (get_list s i hlt)
        by_cases h43 : s[i] = 43
        · have HST := Lib.hid (span_step isSgn s.data.toList i s[i] HG.out HSG.out (by rw [h43]; decide))
          have q43 : ((s[i].toNat : Int) == 43) = true := by rw [h43]; rfl
          have q45 : ((s[i].toNat : Int) == 45) = false := by rw [h43]; rfl
          have HCN := Lib.hid (show ((s.data.toList.take (i + 1)).count 45 % 2 == 1) = neg by rw [take_snoc' _ _ _ HG.out, List.count_append, h43]; simpa using HNEG.out)
          clear h43
          go_wp2_with fail
          go_roundw
          case rel => exact ⟨i + 1, by omega, by go_num, by rw [HCN.out], HST.out, HBW.out⟩
          case measure => simp [intOf]; omega
        · by_cases h45 : s[i] = 45
          · have HST := Lib.hid (span_step isSgn s.data.toList i s[i] HG.out HSG.out (by rw [h45]; decide))
            have q43 : ((s[i].toNat : Int) == 43) = false := by rw [h45]; rfl
            have q45 : ((s[i].toNat : Int) == 45) = true := by rw [h45]; rfl
            have HCN := Lib.hid (show ((s.data.toList.take (i + 1)).count 45 % 2 == 1) = !neg by
              rw [take_snoc' _ _ _ HG.out, List.count_append, h45, ← HNEG.out, show ([45] : List UInt8).count 45 = 1 from rfl]
              generalize (s.data.toList.take i).count 45 = n
              rcases Nat.mod_two_eq_zero_or_one n with h | h <;> simp [Nat.add_mod, h])
            clear h43 h45
            go_wp2_with fail
            go_roundw
            case rel => exact ⟨i + 1, by omega, by go_num, by rw [HCN.out], HST.out, HBW.out⟩
            case measure => simp [intOf]; omega
          · have q43 : ((s[i].toNat : Int) == 43) = false := by rw [beq_eq_false_iff_ne]; exact fun e => h43 (u8_eq (by have : s[i].toNat = 43 := (by omega); rw [this]; rfl))
            have q45 : ((s[i].toNat : Int) == 45) = false := by rw [beq_eq_false_iff_ne]; exact fun e => h45 (u8_eq (by have : s[i].toNat = 45 := (by omega); rw [this]; rfl))
            have HEX := Lib.hid (span_exit isSgn s.data.toList i (by simpa using hi) HSG.out (fun c hc => by
              rw [HG.out] at hc; injection hc with hc; subst hc; unfold isSgn
              exact decide_eq_false (fun e => by rcases e with e | e <;> simp [e] at q43 q45)))
            clear h43 h45
            go_wp2_with fail
            go_meet
            case rel => exact ⟨by rw [HEX.out.1, List.length_take]; simp; omega, by unfold negOf; rw [HEX.out.1, HNEG.out], HBW.out⟩
      · have HEX := Lib.hid (span_exit isSgn s.data.toList i (by simpa using hi) HSG.out (fun c hc => by rw [List.getElem?_eq_none (by simp; omega)] at hc; cases hc))
        have i1 : ¬ (i : Int) < (s.size : Int) := by omega
        go_wp2_with fail
        go_meet
        case rel => exact ⟨by rw [HEX.out.1, List.length_take]; simp; omega, by unfold negOf; rw [HEX.out.1, HNEG.out], HBW.out⟩
  case rest =>
    obtain ⟨rfl, rfl, hbw⟩ := hcut
    have hdl : s.data.toList.dropWhile isSgn = s.data.toList.drop (s.data.toList.takeWhile isSgn).length := (drop_while isSgn _).symm
    have hle : (s.data.toList.takeWhile isSgn).length ≤ s.size := by
      have := (List.takeWhile_sublist isSgn (l := s.data.toList)).length_le
      simpa using this
    have HDL := Lib.hid hdl; have HBW := Lib.hid hbw; clear hdl hbw
    have HNO := Lib.hid (show numOf s.data.toList = if negOf s.data.toList then -(absOf s.data.toList : Int) else (absOf s.data.toList : Int) from rfl)
    generalize hi0 : (s.data.toList.takeWhile isSgn).length = i0 at *
    generalize negOf s.data.toList = neg at *
    clear hi0
    go_upto_block 2 with (fail)
    have hwl : wholeOf s.data.toList = (s.data.toList.drop i0).takeWhile isDig := by unfold wholeOf; rw [HDL.out]
    have HWL := Lib.hid hwl; clear hwl
    go_cut [3, 5] (fun a n wr => a = .int .i64 ((i0 + (wholeOf s.data.toList).length : Nat) : Int) ∧ n = .int .i64 ((cutP 0 (wholeOf s.data.toList) : Nat) : Int) ∧ Below w.heap.size w wr)
    case first =>
      go_wp2_with fail
      go_loopw [3, 5] (fun a n wr => ∃ k : Nat, i0 + k ≤ s.size ∧ a = .int .i64 ((i0 + k : Nat) : Int) ∧ n = .int .i64 ((cutP 0 ((s.data.toList.drop i0).take k) : Nat) : Int) ∧ (∀ c ∈ (s.data.toList.drop i0).take k, isDig c = true) ∧ Below w.heap.size w wr) (fun a _ _ => s.size - (intOf a).toNat)
      case atStart => exact ⟨0, by omega, rfl, rfl, fun c h => by simp at h, HBW.out⟩
      case round =>
        obtain ⟨k, hk, rfl, rfl, hdg, hbw⟩ := hrel
        have HDG := Lib.hid hdg; have HBW := Lib.hid hbw; clear hdg hbw
        have hn12 : cutP 0 ((s.data.toList.drop i0).take k) ≤ 1000000000000 := by rw [cutP_eq _ 0 (by decide)]; exact Nat.min_le_right _ _
        generalize hnn : cutP 0 ((s.data.toList.drop i0).take k) = nn at *
        have HNN := Lib.hid hnn; clear hnn
        by_cases hlt : i0 + k < s.size
        · have i1 : ((i0 + k : Nat) : Int) < (s.size : Int) := by omega
          have i2 : (0 : Int) ≤ ((i0 + k : Nat) : Int) := by omega
          have HG := Lib.hid (get_list s (i0 + k) hlt)
          have HC := Lib.hid (HD.out s[i0 + k] wr)
          go_wp2_with fail
          refine HC.out.mono ?_
          rintro e1 w1 ⟨rfl, rfl⟩
          have hdr : (s.data.toList.drop i0)[k]? = some s[i0 + k] := by rw [List.getElem?_drop]; exact HG.out
          cases hdc : isDig s[i0 + k]
          · have HEX := Lib.hid (span_exit isDig (s.data.toList.drop i0) k (by simp; omega) HDG.out (fun c hc => by rw [hdr] at hc; injection hc with hc; rw [← hc]; exact hdc))
            clear hdr
            go_wp2_with fail
            go_meet
            case rel => exact ⟨by rw [HWL.out, HEX.out.1, List.length_take]; simp; omega, by rw [HWL.out, HEX.out.1, HNN.out], HBW.out⟩
          · have HST := Lib.hid (span_step isDig (s.data.toList.drop i0) k s[i0 + k] hdr HDG.out hdc)
            have HSN := Lib.hid (show cutP 0 ((s.data.toList.drop i0).take (k + 1)) = min (10 * nn + dg s[i0 + k]) 1000000000000 by rw [take_snoc' _ _ _ hdr, cutP_snoc, HNN.out])
            have h9 := dg_le hdc
            have hdv : ((s[i0 + k].toNat : Int) - 48) = (dg s[i0 + k] : Int) := by unfold isDig at hdc; unfold dg; simp only [decide_eq_true_eq] at hdc; omega
            generalize dg s[i0 + k] = dd at *
            have HMN := Lib.hid (l00Min_any (10 * (nn : Int) + (dd : Int)) 1000000000000 wr)
            clear hdr hdc
            go_wp2_with fail
            refine HMN.out.mono ?_
            rintro e2 w2 ⟨rfl, rfl⟩
            rw [show min (10 * (nn : Int) + (dd : Int)) 1000000000000 = ((min (10 * nn + dd) 1000000000000 : Nat) : Int) by omega]
            generalize min (10 * nn + dd) 1000000000000 = n2 at *
            go_wp2_with fail
            go_roundw
            case rel => exact ⟨k + 1, by omega, by go_num, by rw [HSN.out], HST.out, HBW.out⟩
            case measure => simp [intOf]; omega
        · have HEX := Lib.hid (span_exit isDig (s.data.toList.drop i0) k (by simp; omega) HDG.out (fun c hc => by rw [List.getElem?_eq_none (by simp; omega)] at hc; cases hc))
          have i1 : ¬ ((i0 : Int) + (k : Int)) < (s.size : Int) := by omega
          go_wp2_with fail
          go_meet
          case rel => exact ⟨by rw [HWL.out, HEX.out.1, List.length_take]; simp; omega, by rw [HWL.out, HEX.out.1, HNN.out], HBW.out⟩
    case rest =>
      obtain ⟨rfl, rfl, hbw⟩ := hcut
      have HBW2 := Lib.hid hbw; clear hbw
      have hb : behindOf s.data.toList = s.data.toList.drop (i0 + (wholeOf s.data.toList).length) := by
        unfold behindOf
        rw [HDL.out, ← drop_while, List.drop_drop, HWL.out]
      have hle2 : i0 + (wholeOf s.data.toList).length ≤ s.size := by
        have := (List.takeWhile_sublist isDig (l := s.data.toList.drop i0)).length_le
        rw [HWL.out]
        simp at this ⊢
        omega
      have HB := Lib.hid hb; clear hb
      have HCA := Lib.hid (cut_abs s.data.toList)
      have hcw : cutP 0 (wholeOf s.data.toList) ≤ 1000000000000 := by rw [cutP_eq _ 0 (by decide)]; exact Nat.min_le_right _ _
      generalize cutP 0 (wholeOf s.data.toList) = cw at *
      generalize hi1 : i0 + (wholeOf s.data.toList).length = j0 at *
      clear hi1 HWL HDL hle
      have HM1 := Lib.hid (fun W => l00Min_any ((cw : Int) * 1000000) 1000000000000000000 W)
      have hmm : min ((cw : Int) * 1000000) 1000000000000000000 = ((min (cw * 1000000) (maxNum + 1) : Nat) : Int) := by unfold maxNum; omega
      have HMM := Lib.hid hmm; clear hmm
      go_upto_region 11 with (first | fail | (refine (HM1.out _).mono ?_; rintro e1 w1 ⟨rfl, rfl⟩; rw [HMM.out]))
      go_cut [64] (fun b wr => b = .bool (pointB s.data.toList) ∧ Below w.heap.size w wr)
      case first =>
        by_cases hlt : j0 < s.size
        · have i1 : (j0 : Int) < (s.size : Int) := by omega
          have i0' : (0 : Int) ≤ (j0 : Int) := by omega
          have hdr : behindOf s.data.toList = s[j0] :: s.data.toList.drop (j0 + 1) := by rw [HB.out]; exact List.drop_eq_getElem_cons (by simpa using hlt)
          have HPB := Lib.hid (show pointB s.data.toList = ((s[j0].toNat : Int) == 46) by
            unfold pointB; rw [hdr]
            rw [Bool.eq_iff_iff]
            simp only [beq_iff_eq]
            exact ⟨fun e => by rw [e]; rfl, fun e => u8_eq (by have : s[j0].toNat = 46 := (by omega); rw [this]; rfl)⟩)
          clear hdr
          go_wp2_with fail
          go_meet
          case rel => exact ⟨by rw [HPB.out], HBW2.out⟩
        · have i1 : ¬ (j0 : Int) < (s.size : Int) := by omega
          have HPB := Lib.hid (show pointB s.data.toList = false by unfold pointB; rw [HB.out, List.drop_eq_nil_of_le (by simp; omega)])
          go_wp2_with fail
          go_meet
          case rel => exact ⟨by rw [HPB.out], HBW2.out⟩
      case rest =>
        obtain ⟨rfl, hbw⟩ := hcut
        have HBW3 := Lib.hid hbw; clear hbw
        have hn3 : min (cw * 1000000) (maxNum + 1) ≤ 1000000000000000000 := Nat.min_le_right _ _
        generalize min (cw * 1000000) (maxNum + 1) = n3 at *
        clear HM1 HMM hcw
        go_upto_if 64 with (fail)
        go_cut [5] (fun n wr => n = .int .i64 ((fracP n3 100000 (fracOf s.data.toList) : Nat) : Int) ∧ Below w.heap.size w wr)
        case first =>
          cases hpb : pointB s.data.toList
          · have HFR := Lib.hid (show fracOf s.data.toList = [] from fracOf_none (fun r e => by unfold pointB at hpb; rw [e] at hpb; cases hpb))
            clear hpb
            go_wp2_with fail
            go_meet
            case rel => exact ⟨by rw [HFR.out]; rfl, HBW3.out⟩
          · obtain ⟨r, hr⟩ : ∃ r, behindOf s.data.toList = 46 :: r := by
              unfold pointB at hpb
              cases hbh : behindOf s.data.toList with
              | nil => rw [hbh] at hpb; cases hpb
              | cons c r => rw [hbh] at hpb; exact ⟨r, by rw [show c = 46 by simpa using hpb]⟩
            have HFR := Lib.hid (fracOf_point hr)
            have hlen : j0 + (r.length + 1) = s.size := by
              have h1 := congrArg List.length hr
              rw [HB.out] at h1
              simp at h1
              omega
            have HRG := Lib.hid (show ∀ k, r[k]? = s.data.toList[j0 + 1 + k]? from fun k => by
              have h1 : (s.data.toList.drop j0)[k + 1]? = r[k]? := by rw [← HB.out, hr]; rfl
              rw [← h1, List.getElem?_drop]; congr 1; omega)
            clear hr hpb
            go_wp2_with fail
            go_loopw [3, 5, 6] (fun a n u wr => ∃ (k nn uu : Nat), k ≤ r.length ∧ a = .int .i64 ((j0 + 1 + k : Nat) : Int) ∧ n = .int .i64 (nn : Int) ∧ u = .int .i64 (uu : Int) ∧ uu ≤ 100000 ∧ nn + 10 * uu ≤ 1000000000001000000 ∧ fracP nn uu ((r.drop k).takeWhile isDig) = fracP n3 100000 (r.takeWhile isDig) ∧ Below w.heap.size w wr) (fun a _ _ _ => s.size - (intOf a).toNat)
            case atStart => exact ⟨0, n3, 100000, by omega, by go_num, rfl, rfl, Nat.le_refl _, by omega, rfl, HBW3.out⟩
            case round =>
              obtain ⟨k, nn, uu, hk, rfl, rfl, rfl, hu, hnu, hfr, hbw⟩ := hrel
              have HFP := Lib.hid hfr; have HBW4 := Lib.hid hbw; clear hfr hbw
              by_cases hlt : k < r.length
              · have hjs : j0 + 1 + k < s.size := by omega
                have i1 : ((j0 : Int) + 1 + (k : Int)) < (s.size : Int) := by omega
                have i2 : (0 : Int) ≤ ((j0 : Int) + 1 + (k : Int)) := by omega
                have hg := get_list s (j0 + 1 + k) hjs
                have hrk : r[k]? = some s[j0 + 1 + k] := by rw [HRG.out]; exact hg
                have hdk : r.drop k = s[j0 + 1 + k] :: r.drop (k + 1) := by
                  rw [List.getElem?_eq_getElem hlt] at hrk
                  injection hrk with hrk
                  rw [← hrk]
                  exact List.drop_eq_getElem_cons hlt
                have HDK := Lib.hid hdk
                have HC := Lib.hid (HD.out s[j0 + 1 + k] wr)
                clear hg hrk hdk
                go_wp2_with fail
                refine HC.out.mono ?_
                rintro e1 w1 ⟨rfl, rfl⟩
                cases hdc : isDig s[j0 + 1 + k]
                · have HEX := Lib.hid (show fracP n3 100000 (r.takeWhile isDig) = nn by rw [← HFP.out, HDK.out, List.takeWhile_cons, hdc]; rfl)
                  clear hdc
                  go_wp2_with fail
                  go_meet
                  case rel => exact ⟨by rw [HFR.out, HEX.out], HBW4.out⟩
                · have h9 := dg_le hdc
                  have hdv : ((s[j0 + 1 + k].toNat : Int) - 48) = (dg s[j0 + 1 + k] : Int) := by unfold isDig at hdc; unfold dg; simp only [decide_eq_true_eq] at hdc; omega
                  have HSN := Lib.hid (show fracP (nn + dg s[j0 + 1 + k] * uu) (uu / 10) ((r.drop (k + 1)).takeWhile isDig) = fracP n3 100000 (r.takeWhile isDig) by
                    rw [← HFP.out, HDK.out, List.takeWhile_cons, hdc, if_pos rfl, fracP_cons])
                  generalize dg s[j0 + 1 + k] = dd at *
                  have hmul : dd * uu ≤ 9 * uu := Nat.mul_le_mul_right _ h9
                  have hmi : (dd : Int) * (uu : Int) = ((dd * uu : Nat) : Int) := by push_cast; rfl
                  generalize dd * uu = du at *
                  clear hdc
                  go_wp2_with fail
                  go_roundw
                  case rel => exact ⟨k + 1, nn + du, uu / 10, by omega, by go_num, by push_cast; rfl, by push_cast; rfl, by omega, by omega, HSN.out, HBW4.out⟩
                  case measure => simp [intOf]; omega
              · have i1 : ¬ ((j0 : Int) + 1 + (k : Int)) < (s.size : Int) := by omega
                have HEX := Lib.hid (show fracP n3 100000 (r.takeWhile isDig) = nn by rw [← HFP.out, List.drop_eq_nil_of_le (by omega)]; rfl)
                go_wp2_with fail
                go_meet
                case rel => exact ⟨by rw [HFR.out, HEX.out], HBW4.out⟩
        case rest =>
          obtain ⟨rfl, hbw⟩ := hcut
          have HBW4 := Lib.hid hbw; clear hbw
          generalize fracP n3 100000 (fracOf s.data.toList) = nf at *
          have HM2 := Lib.hid (fun W => l00Min_any (nf : Int) 999999999999999999 W)
          have HM3 := Lib.hid (show min (nf : Int) 999999999999999999 = (absOf s.data.toList : Int) by rw [← HCA.out]; unfold maxNum; omega)
          have hab := absOf_le s.data.toList
          unfold maxNum at hab
          generalize absOf s.data.toList = ab at *
          have HBF := HBW4.out
          cases neg
          · go_wp2_with (first | fail | (refine (HM2.out _).mono ?_; rintro e1 w1 ⟨rfl, rfl⟩; rw [HM3.out]))
            go_ret
            exact ⟨by rw [HNO.out]; rfl, HBF⟩
          · go_wp2_with (first | fail | (refine (HM2.out _).mono ?_; rintro e1 w1 ⟨rfl, rfl⟩; rw [HM3.out]))
            go_ret
            exact ⟨by rw [HNO.out]; rfl, HBF⟩
end Go.Proofs.YtfibjcaidnofmaaGreatDoor
