/- Numbers and their texts, plainly: what NumOf reads, what NumText writes. -/
import Derived.Lib.ItoaNum
import Derived.Lib.Join
import Derived.Test.YtnnabkldceklmaaGreatDoorProg
import Derived.Test.YtnnabkldceklmaaGreatDoorJoinBTAa
set_option maxHeartbeats 16000000
set_option maxRecDepth 100000
namespace Go.Proofs.YtnnabkldceklmaaGreatDoor
def isDig (c : UInt8) : Bool := decide (48 ≤ c.toNat ∧ c.toNat ≤ 57)
def isSgn (c : UInt8) : Bool := decide (c.toNat = 43 ∨ c.toNat = 45)
def dg (c : UInt8) : Nat := (c.toNat + 208) % 256
def valFrom (n : Nat) : List UInt8 → Nat
 | [] => n
 | c :: l => valFrom (10 * n + dg c) l
def maxNum : Nat := 999999999999999999
theorem dg_le {c : UInt8} (h : isDig c = true) : dg c ≤ 9 := by
 unfold isDig at h; unfold dg
 simp only [decide_eq_true_eq] at h
 omega
theorem valFrom_nil (n : Nat) : valFrom n [] = n := rfl
theorem valFrom_cons (n : Nat) (c : UInt8) (l : List UInt8) : valFrom n (c :: l) = valFrom (10 * n + dg c) l := by rw [valFrom]
theorem valFrom_ge (l : List UInt8) : ∀ (n : Nat), n ≤ valFrom n l := by
 induction l with
 | nil => intro n; rw [valFrom_nil]; exact Nat.le_refl _
 | cons c l ih => intro n; rw [valFrom_cons]; have := ih (10 * n + dg c); omega
theorem valFrom_append (l1 l2 : List UInt8) : ∀ (n : Nat), valFrom n (l1 ++ l2) = valFrom (valFrom n l1) l2 := by
 induction l1 with
 | nil => intro n; rfl
 | cons c l ih => intro n; rw [List.cons_append, valFrom_cons, valFrom_cons, ih]
theorem valFrom_split (l : List UInt8) : ∀ (n : Nat), valFrom n l = n * 10 ^ l.length + valFrom 0 l := by
 induction l with
 | nil => intro n; rw [valFrom_nil, valFrom_nil, List.length_nil, Nat.pow_zero, Nat.mul_one, Nat.add_zero]
 | cons c l ih =>
  intro n
  rw [valFrom_cons, valFrom_cons, ih (10 * n + dg c), ih (10 * 0 + dg c), List.length_cons, Nat.pow_succ, Nat.mul_zero, Nat.zero_add, Nat.add_mul, ← Nat.add_assoc]
  congr 2
  rw [Nat.mul_comm 10 n, Nat.mul_assoc, Nat.mul_comm 10]
theorem valFrom_lt (l : List UInt8) : (∀ c ∈ l, isDig c = true) → valFrom 0 l < 10 ^ l.length := by
 induction l with
 | nil => intro _; rw [valFrom_nil]; exact Nat.one_pos
 | cons c l ih =>
  intro h
  rw [valFrom_cons, valFrom_split, List.length_cons, Nat.mul_zero, Nat.zero_add, Nat.pow_succ]
  have h1 := ih (fun x hx => h x (List.mem_cons_of_mem _ hx))
  have h2 := dg_le (h c List.mem_cons_self)
  have h3 : dg c * 10 ^ l.length ≤ 9 * 10 ^ l.length := Nat.mul_le_mul_right _ h2
  omega
def scaledP (n : Nat) : List UInt8 → Nat
 | [] => n
 | c :: l => if (maxNum - dg c) / 10 < n then maxNum else scaledP (10 * n + dg c) l
theorem scaledP_nil (n : Nat) : scaledP n [] = n := rfl
theorem scaledP_cons (n : Nat) (c : UInt8) (l : List UInt8) : scaledP n (c :: l) = if (maxNum - dg c) / 10 < n then maxNum else scaledP (10 * n + dg c) l := rfl
theorem scaledP_eq (l : List UInt8) : ∀ (n : Nat), n ≤ maxNum → (∀ c ∈ l, isDig c = true) → scaledP n l = min maxNum (valFrom n l) := by
 induction l with
 | nil => intro n h _; rw [scaledP_nil, valFrom_nil, Nat.min_eq_right h]
 | cons c l ih =>
  intro n h hd
  rw [scaledP_cons, valFrom_cons]
  have h9 := dg_le (hd c List.mem_cons_self)
  split
  ·rename_i hb
   have h1 : maxNum ≤ 10 * n + dg c := by unfold maxNum at *; omega
   have h2 := valFrom_ge l (10 * n + dg c)
   rw [Nat.min_eq_left (Nat.le_trans h1 h2)]
  ·rename_i hb
   exact ih _ (by unfold maxNum at *; omega) (fun x hx => hd x (List.mem_cons_of_mem _ hx))
def cutP (n : Nat) : List UInt8 → Nat
 | [] => n
 | c :: l => cutP (min (10 * n + dg c) 1000000000000) l
theorem cutP_nil (n : Nat) : cutP n [] = n := rfl
theorem cutP_cons (n : Nat) (c : UInt8) (l : List UInt8) : cutP n (c :: l) = cutP (min (10 * n + dg c) 1000000000000) l := by rw [cutP]
theorem cutP_eq (l : List UInt8) : ∀ (n : Nat), n ≤ 1000000000000 → cutP n l = min (valFrom n l) 1000000000000 := by
 induction l with
 | nil => intro n h; rw [cutP_nil, valFrom_nil, Nat.min_eq_left h]
 | cons c l ih =>
  intro n h
  rw [cutP_cons, valFrom_cons, ih _ (Nat.min_le_right _ _)]
  by_cases hb : 10 * n + dg c ≤ 1000000000000
  ·rw [Nat.min_eq_left hb]
  ·rw [Nat.min_eq_right (show 1000000000000 ≤ 10 * n + dg c by omega)]
   have h1 := valFrom_ge l 1000000000000
   have h2 := valFrom_ge l (10 * n + dg c)
   rw [Nat.min_eq_right h1, Nat.min_eq_right (by omega)]
def fracP (n u : Nat) : List UInt8 → Nat
 | [] => n
 | c :: l => fracP (n + dg c * u) (u / 10) l
theorem fracP_nil (n u : Nat) : fracP n u [] = n := rfl
theorem fracP_cons (n u : Nat) (c : UInt8) (l : List UInt8) : fracP n u (c :: l) = fracP (n + dg c * u) (u / 10) l := rfl
theorem fracP_zero (l : List UInt8) : ∀ (n : Nat), fracP n 0 l = n := by
 induction l with
 | nil => intro n; rfl
 | cons c l ih => intro n; rw [fracP_cons, Nat.mul_zero, Nat.zero_div, Nat.add_zero, ih]
def fillP (k : Nat) (l : List UInt8) : List UInt8 := (l ++ List.replicate k 48).take k
theorem fillP_len (k : Nat) (l : List UInt8) : (fillP k l).length = k := by unfold fillP; simp
theorem valFrom_zeros (k : Nat) : valFrom 0 (List.replicate k 48) = 0 := by
 induction k with
 | zero => rfl
 | succ k ih => rw [List.replicate_succ, valFrom_cons]; exact ih
theorem fillP_cons (k : Nat) (c : UInt8) (l : List UInt8) : fillP (k + 1) (c :: l) = c :: fillP k l := by
 unfold fillP
 rw [List.cons_append, List.take_succ_cons, List.take_append, List.take_append, List.take_replicate, List.take_replicate, Nat.min_eq_left (by omega), Nat.min_eq_left (by omega)]
theorem fillP_nil (k : Nat) : fillP k [] = List.replicate k 48 := by
 unfold fillP; rw [List.nil_append, List.take_of_length_le (by simp)]
theorem fracP_eq (l : List UInt8) : ∀ (k n : Nat), fracP n (10 ^ k) l = n + valFrom 0 (fillP (k + 1) l) := by
 induction l with
 | nil => intro k n; rw [fracP_nil, fillP_nil, valFrom_zeros, Nat.add_zero]
 | cons c l ih =>
  intro k n
  rw [fracP_cons, fillP_cons, valFrom_cons, Nat.mul_zero, Nat.zero_add]
  cases k with
  | zero =>
   rw [Nat.pow_zero, show 1 / 10 = 0 from rfl, fracP_zero]
   unfold fillP
   rw [List.take_zero, valFrom_nil, Nat.mul_one]
  | succ k =>
   rw [show 10 ^ (k + 1) / 10 = 10 ^ k by rw [Nat.pow_succ]; exact Nat.mul_div_cancel _ (by decide), ih k, valFrom_split (fillP (k + 1) l) (dg c), fillP_len, Nat.add_assoc]
def wholeOf (l : List UInt8) : List UInt8 := (l.dropWhile isSgn).takeWhile isDig
def behindOf (l : List UInt8) : List UInt8 := (l.dropWhile isSgn).dropWhile isDig
def fracOf (l : List UInt8) : List UInt8 := match behindOf l with
 | c :: r => if c = 46 then r.takeWhile isDig else []
 | [] => []
def negOf (l : List UInt8) : Bool := (l.takeWhile isSgn).count 45 % 2 == 1
def absOf (l : List UInt8) : Nat := min maxNum (valFrom 0 (wholeOf l ++ fillP 6 (fracOf l)))
def numOf (l : List UInt8) : Int := if negOf l then -(absOf l : Int) else (absOf l : Int)
theorem absOf_le (l : List UInt8) : absOf l ≤ maxNum := Nat.min_le_left _ _
theorem mem_takeWhile_dig (p : UInt8 → Bool) : ∀ (l : List UInt8), ∀ c ∈ l.takeWhile p, p c = true
 | [], c, h => by cases h
 | a :: l, c, h => by
  rw [List.takeWhile_cons] at h
  split at h
  ·rename_i ha
   rcases List.mem_cons.1 h with rfl | h
   ·exact ha
   ·exact mem_takeWhile_dig p l c h
  ·cases h
def wholeT (k : Nat) : List UInt8 := if k = 0 then [] else Go.Lib.decDigits k
def trimZ (l : List UInt8) : List UInt8 := (l.reverse.dropWhile (· == 48)).reverse
def fracT (r : Nat) : List UInt8 := if r = 0 then [] else 46 :: trimZ ((Go.Lib.decDigits (1000000 + r)).drop 1)
def absT (a : Nat) : List UInt8 := wholeT (a / 1000000) ++ fracT (a % 1000000)
def numText (n : Int) : List UInt8 := if n = 0 then [48] else if n < 0 then 45 :: absT n.natAbs else absT n.natAbs
def canonB (l : List UInt8) : Bool := decide (numText (numOf l) = l)
theorem decDigits_big {u : Nat} (h : ¬ u < 10) : Go.Lib.decDigits u = Go.Lib.decDigits (u / 10) ++ [UInt8.ofNat (48 + u % 10)] := by
 rw [Go.Lib.decDigits, dif_neg h]
theorem decDigits_small {u : Nat} (h : u < 10) : Go.Lib.decDigits u = [UInt8.ofNat (48 + u)] := by
 rw [Go.Lib.decDigits, dif_pos h]
theorem decDigits_len : ∀ (k u : Nat), u < 10 ^ (k + 1) → (Go.Lib.decDigits u).length ≤ k + 1
 | 0, u, h => by rw [decDigits_small (by simpa using h)]; exact Nat.le_refl _
 | k + 1, u, h => by
  by_cases hu : u < 10
  ·rw [decDigits_small hu]; simp
  ·rw [decDigits_big hu, List.length_append]
   have := decDigits_len k (u / 10) (by rw [Nat.pow_succ] at h; omega)
   simp only [List.length_cons, List.length_nil]
   omega
theorem wholeT_step (k : Nat) (h : k ≠ 0) : wholeT k = wholeT (k / 10) ++ [UInt8.ofNat (48 + k % 10)] := by
 unfold wholeT
 rw [if_neg h]
 by_cases hk : k < 10
 ·rw [decDigits_small hk, if_pos (by omega), Nat.mod_eq_of_lt hk]; rfl
 ·rw [decDigits_big hk, if_neg (by omega)]
theorem trimZ_snoc0 (l : List UInt8) : trimZ (l ++ [48]) = trimZ l := by
 unfold trimZ
 rw [List.reverse_append]
 rfl
theorem trimZ_snoc (l : List UInt8) (c : UInt8) (h : c ≠ 48) : trimZ (l ++ [c]) = l ++ [c] := by
 unfold trimZ
 rw [List.reverse_append]
 show (List.dropWhile _ (c :: l.reverse)).reverse = _
 rw [List.dropWhile_cons, if_neg (by simpa using h)]
 simp
theorem trimZ_len (l : List UInt8) : (trimZ l).length ≤ l.length := by
 unfold trimZ
 rw [List.length_reverse]
 have := (List.dropWhile_sublist (fun b : UInt8 => b == 48) (l := l.reverse)).length_le
 simpa using this
theorem absT_len (a : Nat) (h : a ≤ maxNum) : (absT a).length ≤ 20 := by
 unfold absT
 rw [List.length_append]
 have h1 : (wholeT (a / 1000000)).length ≤ 12 := by
  unfold wholeT
  split
  ·simp
  ·exact decDigits_len 11 _ (by unfold maxNum at h; omega)
 have h2 : (fracT (a % 1000000)).length ≤ 8 := by
  unfold fracT
  split
  ·simp
  ·rw [List.length_cons]
   have := trimZ_len ((Go.Lib.decDigits (1000000 + a % 1000000)).drop 1)
   have h3 := decDigits_len 6 (1000000 + a % 1000000) (by omega)
   rw [List.length_drop] at this
   omega
 omega
theorem numText_len (n : Int) (h : n.natAbs ≤ maxNum) : (numText n).length ≤ 21 := by
 have := absT_len n.natAbs h
 unfold numText
 split
 ·simp
 split
 ·rw [List.length_cons]; omega
 ·omega
theorem numOf_abs (l : List UInt8) : (numOf l).natAbs ≤ maxNum := by
 have := absOf_le l
 unfold numOf
 split <;> omega
theorem canonB_long {l : List UInt8} (h : 21 < l.length) : canonB l = false := by
 unfold canonB
 have h1 := numText_len (numOf l) (numOf_abs l)
 exact decide_eq_false (fun e => by rw [e] at h1; omega)
theorem canonB_nil : canonB [] = false := by
 unfold canonB
 exact decide_eq_false (fun e => by cases (show [(48 : UInt8)] = [] from e))
theorem take_while (p : UInt8 → Bool) (l : List UInt8) : l.take (l.length - (l.dropWhile p).length) = l.takeWhile p := by
 have h := List.takeWhile_append_dropWhile (p := p) (l := l)
 have h2 : l.length - (l.dropWhile p).length = (l.takeWhile p).length := by
  have := congrArg List.length h
  rw [List.length_append] at this
  omega
 have h3 : (l.takeWhile p ++ l.dropWhile p).take (l.takeWhile p).length = l.takeWhile p := List.take_left
 rw [h] at h3
 rw [h2, h3]
theorem drop_while (p : UInt8 → Bool) (l : List UInt8) : l.drop (l.takeWhile p).length = l.dropWhile p := by
 have h := List.takeWhile_append_dropWhile (p := p) (l := l)
 have h3 : (l.takeWhile p ++ l.dropWhile p).drop (l.takeWhile p).length = l.dropWhile p := List.drop_left
 rwa [h] at h3
end Go.Proofs.YtnnabkldceklmaaGreatDoor
/- Names: both NameOk compute one plain function. -/
namespace Go.Proofs.YtnnabkldceklmaaGreatDoor
open Go.RowKit
def letterB (c : Nat) : Bool := decide ((97 ≤ c ∧ c ≤ 122) ∨ (65 ≤ c ∧ c ≤ 90))
def digitB (c : Nat) : Bool := decide (48 ≤ c ∧ c ≤ 57)
def nameCh (j c : Nat) : Bool := letterB c || (decide (j = 0) && decide (c = 37)) || (decide (j ≠ 0) && digitB c)
def nameTo (s : ByteArray) (k : Nat) : Bool := (List.range k).all fun j => nameCh j (s.get! j).toNat
def nameB (s : ByteArray) : Bool := decide (1 ≤ s.size) && decide (s.size ≤ 8) && nameTo s s.size
theorem byte_at {s : ByteArray} {k : Nat} (h : k < s.size) : s.get! k = s[k] := by
 show s.data[k]! = s.data[k]
 exact getElem!_pos s.data k h
theorem nameTo_succ (s : ByteArray) (k : Nat) : nameTo s (k + 1) = (nameTo s k && nameCh k (s.get! k).toNat) := by
 unfold nameTo
 rw [List.range_succ, List.all_append]
 simp
theorem nameTo_false {s : ByteArray} {k n : Nat} (hk : k < n) (h : nameCh k (s.get! k).toNat = false) : nameTo s n = false := by
 unfold nameTo
 rw [List.all_eq_false]
 exact ⟨k, by simpa using hk, by simp [h]⟩
theorem isLetter_any (c : Nat) (w : World) (hc : c ≤ 255) : Calls Tryz.prog 245 #[.int .u8 c] w fun e w' => e = .returned (.bool (letterB c)) ∧ w = w' := by
 rcases (show (97 ≤ c ∧ c ≤ 122) ∨ (65 ≤ c ∧ c ≤ 90) ∨ (122 < c) ∨ (90 < c ∧ c < 97) ∨ c < 65 from by omega) with h | h | h | h | h
 all_goals
  go_enter Tryz.func245, Tryz.ntmps245
  go_wp2
  go_ret
  refine ⟨?_, rfl⟩
  refine congrArg (fun b => Ending.returned (.bool b)) ?_
  unfold letterB
  rw [Bool.eq_iff_iff]
  simp
  try omega
theorem isLetter_t (c : Nat) (w : World) (hc : c ≤ 255) (h : letterB c = true) : Calls Tryz.prog 245 #[.int .u8 c] w fun e w' => e = .returned (.bool true) ∧ w = w' := h ▸ isLetter_any c w hc
theorem isLetter_f (c : Nat) (w : World) (hc : c ≤ 255) (h : letterB c = false) : Calls Tryz.prog 245 #[.int .u8 c] w fun e w' => e = .returned (.bool false) ∧ w = w' := h ▸ isLetter_any c w hc
theorem isDigit_any (c : Nat) (w : World) (hc : c ≤ 255) : Calls Tryz.prog 246 #[.int .u8 c] w fun e w' => e = .returned (.bool (digitB c)) ∧ w = w' := by
 rcases (show (48 ≤ c ∧ c ≤ 57) ∨ 57 < c ∨ c < 48 from by omega) with h | h | h
 all_goals
  go_enter Tryz.func246, Tryz.ntmps246
  go_wp2
  go_ret
  refine ⟨?_, rfl⟩
  refine congrArg (fun b => Ending.returned (.bool b)) ?_
  unfold digitB
  rw [Bool.eq_iff_iff]
  simp
  try omega
theorem isDigit_t (c : Nat) (w : World) (hc : c ≤ 255) (h : digitB c = true) : Calls Tryz.prog 246 #[.int .u8 c] w fun e w' => e = .returned (.bool true) ∧ w = w' := h ▸ isDigit_any c w hc
theorem isDigit_f (c : Nat) (w : World) (hc : c ≤ 255) (h : digitB c = false) : Calls Tryz.prog 246 #[.int .u8 c] w fun e w' => e = .returned (.bool false) ∧ w = w' := h ▸ isDigit_any c w hc
theorem l02Letter_any (c : Nat) (w : World) (hc : c ≤ 255) : Calls Tryz.prog 252 #[.int .u8 c] w fun e w' => e = .returned (.bool (letterB c)) ∧ w = w' := by
 rcases (show (97 ≤ c ∧ c ≤ 122) ∨ (65 ≤ c ∧ c ≤ 90) ∨ (122 < c) ∨ (90 < c ∧ c < 97) ∨ c < 65 from by omega) with h | h | h | h | h
 all_goals
  go_enter Tryz.func252, Tryz.ntmps252
  go_wp2
  go_ret
  refine ⟨?_, rfl⟩
  refine congrArg (fun b => Ending.returned (.bool b)) ?_
  unfold letterB
  rw [Bool.eq_iff_iff]
  simp
  try omega
theorem l02Letter_t (c : Nat) (w : World) (hc : c ≤ 255) (h : letterB c = true) : Calls Tryz.prog 252 #[.int .u8 c] w fun e w' => e = .returned (.bool true) ∧ w = w' := h ▸ l02Letter_any c w hc
theorem l02Letter_f (c : Nat) (w : World) (hc : c ≤ 255) (h : letterB c = false) : Calls Tryz.prog 252 #[.int .u8 c] w fun e w' => e = .returned (.bool false) ∧ w = w' := h ▸ l02Letter_any c w hc
theorem l01Digit_any (c : Nat) (w : World) (hc : c ≤ 255) : Calls Tryz.prog 253 #[.int .u8 c] w fun e w' => e = .returned (.bool (digitB c)) ∧ w = w' := by
 rcases (show (48 ≤ c ∧ c ≤ 57) ∨ 57 < c ∨ c < 48 from by omega) with h | h | h
 all_goals
  go_enter Tryz.func253, Tryz.ntmps253
  go_wp2
  go_ret
  refine ⟨?_, rfl⟩
  refine congrArg (fun b => Ending.returned (.bool b)) ?_
  unfold digitB
  rw [Bool.eq_iff_iff]
  simp
  try omega
theorem l01Digit_t (c : Nat) (w : World) (hc : c ≤ 255) (h : digitB c = true) : Calls Tryz.prog 253 #[.int .u8 c] w fun e w' => e = .returned (.bool true) ∧ w = w' := h ▸ l01Digit_any c w hc
theorem l01Digit_f (c : Nat) (w : World) (hc : c ≤ 255) (h : digitB c = false) : Calls Tryz.prog 253 #[.int .u8 c] w fun e w' => e = .returned (.bool false) ∧ w = w' := h ▸ l01Digit_any c w hc
theorem byte_le (c : UInt8) : c.toNat ≤ 255 := by have := c.toNat_lt; omega
theorem implNameOk_any (s : ByteArray) (w : World) (hs : s.size ≤ 9223372036854775807) :
  Calls Tryz.prog 229 #[.string s] w fun e w' => e = .returned (.bool (nameB s)) ∧ w = w' := by
 go_enter Tryz.func229, Tryz.ntmps229
 go_wp2
 go_loop [3] (fun i => ∃ k : Nat, k ≤ s.size ∧ i = .int .i64 k ∧ nameTo s k = true) (fun i => s.size - (intOf i).toNat)
 case atStart => exact ⟨0, Nat.zero_le _, rfl, rfl⟩
 case round =>
  obtain ⟨k, hk, rfl, ht⟩ := hrel
  have HT := hd_ ht; clear ht
  by_cases hlt : k < s.size
  ·have hb := byte_at hlt
   have HB := hd_ hb; clear hb
   have hok : nameCh k s[k].toNat = true → nameTo s (k + 1) = true := fun h => by rw [nameTo_succ, HT.out, HB.out, h]; rfl
   have hno : nameCh k s[k].toNat = false → nameB s = false := fun h => by unfold nameB; rw [nameTo_false hlt (by rw [HB.out]; exact h), Bool.and_false]
   have HOK := hd_ hok; have HNO := hd_ hno; clear hok hno
   have h255 := byte_le s[k]
   cases hL : letterB s[k].toNat
   ·have HL := hd_ hL; clear hL
    by_cases h0 : k = 0
    ·subst h0
     by_cases h37 : s[0].toNat = 37
     ·have h37b : ((s[0].toNat : Int) == 37) = true := by rw [beq_iff_eq]; omega
      have hch : nameCh 0 s[0].toNat = true := by simp [nameCh, h37]
      have HC := hd_ hch; have H37 := hd_ h37; clear h37 hch
      go_wp2_with (go_at_call 245; refine (isLetter_f _ _ h255 HL.out).mono ?_; rintro e w' ⟨rfl, rfl⟩)
      go_round
      case rel => exact ⟨0 + 1, by omega, by go_num, HOK.out HC.out⟩
      case measure => simp [intOf]; omega
     ·have h37b : ((s[0].toNat : Int) == 37) = false := by rw [beq_eq_false_iff_ne]; omega
      have hch : nameCh 0 s[0].toNat = false := by simp [nameCh, h37, HL.out]
      have HC := hd_ hch; clear hch
      go_wp2_with (go_at_call 245; refine (isLetter_f _ _ h255 HL.out).mono ?_; rintro e w' ⟨rfl, rfl⟩)
      go_ret
      exact ⟨by rw [HNO.out HC.out]; rfl, rfl⟩
    ·have hk0 : ((k : Int) == 0) = false := by rw [beq_eq_false_iff_ne]; omega
     cases hD : digitB s[k].toNat
     ·have hch : nameCh k s[k].toNat = false := by simp [nameCh, HL.out, hD, h0]
      have HC := hd_ hch; have HD := hd_ hD; clear hch hD
      go_wp2_with (first | (go_at_call 245; refine (isLetter_f _ _ h255 HL.out).mono ?_; rintro e w' ⟨rfl, rfl⟩) | (go_at_call 246; refine (isDigit_f _ _ h255 HD.out).mono ?_; rintro e w' ⟨rfl, rfl⟩))
      go_ret
      exact ⟨by rw [HNO.out HC.out]; rfl, rfl⟩
     ·have hch : nameCh k s[k].toNat = true := by simp [nameCh, HL.out, hD, h0]
      have HC := hd_ hch; have HD := hd_ hD; clear hch hD
      go_wp2_with (first | (go_at_call 245; refine (isLetter_f _ _ h255 HL.out).mono ?_; rintro e w' ⟨rfl, rfl⟩) | (go_at_call 246; refine (isDigit_t _ _ h255 HD.out).mono ?_; rintro e w' ⟨rfl, rfl⟩))
      go_round
      case rel => exact ⟨k + 1, by omega, by go_num, HOK.out HC.out⟩
      case measure => simp [intOf]; omega
   ·have hch : nameCh k s[k].toNat = true := by simp [nameCh, hL]
    have HC := hd_ hch; have HL := hd_ hL; clear hch hL
    go_wp2_with (go_at_call 245; refine (isLetter_t _ _ h255 HL.out).mono ?_; rintro e w' ⟨rfl, rfl⟩)
    go_round
    case rel => exact ⟨k + 1, by omega, by go_num, HOK.out HC.out⟩
    case measure => simp [intOf]; omega
  ·obtain rfl : k = s.size := by omega
   by_cases h1 : 1 ≤ s.size
   ·by_cases h8 : s.size ≤ 8
    all_goals
     go_wp2
     go_ret
     refine ⟨?_, rfl⟩
     refine congrArg (fun b => Ending.returned (.bool b)) ?_
     unfold nameB
     rw [HT.out, Bool.eq_iff_iff]
     simp
     omega
   ·go_wp2
    go_ret
    refine ⟨?_, rfl⟩
    unfold nameB
    simp [h1]
theorem nameTo_one (s : ByteArray) : nameTo s 1 = nameCh 0 (s.get! 0).toNat := by simp [nameTo, List.range_succ]
theorem l02Name_any (s : ByteArray) (w : World) (hs : s.size ≤ 9223372036854775807) :
  Calls Tryz.prog 239 #[.string s] w fun e w' => e = .returned (.bool (nameB s)) ∧ w = w' := by
 by_cases h1 : s.size < 1
 ·have hB : nameB s = false := by unfold nameB; simp; omega
  rw [hB]; clear hB
  go_enter Tryz.func239, Tryz.ntmps239
  go_wp2
  go_ret
  exact ⟨rfl, rfl⟩
 by_cases h8 : 8 < s.size
 ·have hB : nameB s = false := by unfold nameB; simp; omega
  rw [hB]; clear hB
  go_enter Tryz.func239, Tryz.ntmps239
  go_wp2
  go_ret
  exact ⟨rfl, rfl⟩
 have hp : 0 < s.size := by omega
 have h255 := byte_le s[0]
 have HB0 := hd_ (byte_at hp)
 have hno : nameCh 0 s[0].toNat = false → nameB s = false := fun h => by unfold nameB; rw [nameTo_false hp (by rw [HB0.out]; exact h), Bool.and_false]
 have HNO := hd_ hno; clear hno
 have d1 : decide ((s.size : Int) < 1) = false := by simp; omega
 have d8 : decide (8 < (s.size : Int)) = false := by simp; omega
 by_cases hfirst : nameCh 0 s[0].toNat = true
 ·have ht1 : nameTo s 1 = true := by rw [nameTo_one, HB0.out]; exact hfirst
  have HT1 := hd_ ht1; clear ht1
  have hcase : (letterB s[0].toNat = true ∧ True) ∨ (letterB s[0].toNat = false ∧ ((s[0].toNat : Int) != 37) = false) := by
   cases hL : letterB s[0].toNat
   ·have h37 : s[0].toNat = 37 := by simpa [nameCh, hL] using hfirst
    exact .inr ⟨rfl, by rw [h37]; rfl⟩
   ·exact .inl ⟨rfl, trivial⟩
  clear hfirst HNO
  rcases hcase with ⟨hL, hp37⟩ | ⟨hL, hp37⟩
  all_goals
   have HL := hd_ hL; clear hL
   go_enter Tryz.func239, Tryz.ntmps239
   go_wp2_with (go_at_call 252; first | (refine (l02Letter_f _ _ h255 HL.out).mono ?_; rintro e w' ⟨rfl, rfl⟩) | (refine (l02Letter_t _ _ h255 HL.out).mono ?_; rintro e w' ⟨rfl, rfl⟩))
   go_loop [3] (fun i => ∃ k : Nat, 1 ≤ k ∧ k ≤ s.size ∧ i = .int .i64 k ∧ nameTo s k = true) (fun i => s.size - (intOf i).toNat)
   case atStart => exact ⟨1, by omega, by omega, rfl, HT1.out⟩
   case round =>
    obtain ⟨k, h1k, hk, rfl, ht⟩ := hrel
    have HT := hd_ ht; clear ht
    by_cases hlt : k < s.size
    ·have HB := hd_ (byte_at hlt)
     have h255' := byte_le s[k]
     have hok : nameCh k s[k].toNat = true → nameTo s (k + 1) = true := fun h => by rw [nameTo_succ, HT.out, HB.out, h]; rfl
     have hno : nameCh k s[k].toNat = false → nameB s = false := fun h => by unfold nameB; rw [nameTo_false hlt (by rw [HB.out]; exact h), Bool.and_false]
     have HOK := hd_ hok; have HNO := hd_ hno; clear hok hno
     have hk0 : k ≠ 0 := by omega
     cases hL : letterB s[k].toNat
     ·cases hD : digitB s[k].toNat
      ·have HC := hd_ (show nameCh k s[k].toNat = false by simp [nameCh, hL, hD, hk0])
       have HL2 := hd_ hL; have HD := hd_ hD; clear hL hD
       go_wp2_with (first | (go_at_call 252; refine (l02Letter_f _ _ h255' HL2.out).mono ?_; rintro e w' ⟨rfl, rfl⟩) | (go_at_call 253; refine (l01Digit_f _ _ h255' HD.out).mono ?_; rintro e w' ⟨rfl, rfl⟩))
       go_ret
       exact ⟨by rw [HNO.out HC.out]; rfl, rfl⟩
      ·have HC := hd_ (show nameCh k s[k].toNat = true by simp [nameCh, hL, hD, hk0])
       have HL2 := hd_ hL; have HD := hd_ hD; clear hL hD
       go_wp2_with (first | (go_at_call 252; refine (l02Letter_f _ _ h255' HL2.out).mono ?_; rintro e w' ⟨rfl, rfl⟩) | (go_at_call 253; refine (l01Digit_t _ _ h255' HD.out).mono ?_; rintro e w' ⟨rfl, rfl⟩))
       go_round
       case rel => exact ⟨k + 1, by omega, by omega, by go_num, HOK.out HC.out⟩
       case measure => simp [intOf]; omega
     ·have HC := hd_ (show nameCh k s[k].toNat = true by simp [nameCh, hL])
      have HL2 := hd_ hL; clear hL
      go_wp2_with (go_at_call 252; refine (l02Letter_t _ _ h255' HL2.out).mono ?_; rintro e w' ⟨rfl, rfl⟩)
      go_round
      case rel => exact ⟨k + 1, by omega, by omega, by go_num, HOK.out HC.out⟩
      case measure => simp [intOf]; omega
    ·obtain rfl : k = s.size := by omega
     go_wp2
     go_ret
     refine ⟨?_, rfl⟩
     refine congrArg (fun b => Ending.returned (.bool b)) ?_
     unfold nameB
     rw [HT.out, Bool.eq_iff_iff]
     simp
     omega
 ·have hfirst' : nameCh 0 s[0].toNat = false := by simpa using hfirst
  have HB := hd_ (HNO.out hfirst')
  have hl : letterB s[0].toNat = false := by
   cases hL : letterB s[0].toNat
   ·rfl
   ·simp [nameCh, hL] at hfirst
  have hp37 : ((s[0].toNat : Int) != 37) = true := by
   rw [bne_iff_ne]
   intro h
   have h37 : s[0].toNat = 37 := by omega
   simp [nameCh, h37] at hfirst
  have HL := hd_ hl; clear hl hfirst hfirst' HNO
  go_enter Tryz.func239, Tryz.ntmps239
  go_wp2_with (go_at_call 252; refine (l02Letter_f _ _ h255 HL.out).mono ?_; rintro e w' ⟨rfl, rfl⟩)
  go_ret
  exact ⟨by rw [HB.out]; rfl, rfl⟩
theorem specNameOk_any (s : ByteArray) (w : World) (hs : s.size ≤ 9223372036854775807) :
  Calls Tryz.prog 225 #[.string s] w fun e w' => e = .returned (.bool (nameB s)) ∧ w = w' := by
 go_enter Tryz.func225, Tryz.ntmps225
 go_wp2_with (go_at_call 239; refine (l02Name_any s _ hs).mono ?_; rintro e w' ⟨rfl, rfl⟩)
 go_ret
 exact ⟨rfl, rfl⟩
end Go.Proofs.YtnnabkldceklmaaGreatDoor
