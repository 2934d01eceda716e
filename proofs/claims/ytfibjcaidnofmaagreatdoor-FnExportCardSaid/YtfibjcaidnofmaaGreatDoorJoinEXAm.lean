/- The order of texts, lists of texts and places: plain laws. -/
import Derived.Test.YtfibjcaidnofmaaGreatDoorJoinEXAb
import Derived.Test.YtfibjcaidnofmaaGreatDoorJoinEXAk
import Derived.Test.YtfibjcaidnofmaaGreatDoorJoinEXAf
import Derived.Test.YtfibjcaidnofmaaGreatDoorJoinEXAe
import Derived.StillTailTactics
namespace Go.Proofs.YtfibjcaidnofmaaGreatDoor

def ltT (a b : ByteArray) : Bool := Op.bytesLess a.toList b.toList
def eqT (a b : ByteArray) : Bool := a.toList == b.toList
theorem eqT_iff (a b : ByteArray) : eqT a b = true ↔ a = b := by
  unfold eqT
  rw [beq_iff_eq]
  constructor
  · intro h
    rw [ByteArray.toList_eq, ByteArray.toList_eq] at h
    exact ByteArray.ext (Array.toList_inj.1 h)
  · rintro rfl; rfl
theorem eqT_false {a b : ByteArray} (h : a ≠ b) : eqT a b = false := by
  cases he : eqT a b
  · rfl
  · exact absurd ((eqT_iff a b).1 he) h
theorem eqT_refl (a : ByteArray) : eqT a a = true := (eqT_iff a a).2 rfl
theorem less_irrefl : ∀ l : List UInt8, Op.bytesLess l l = false
  | [] => rfl
  | a :: l => by
    unfold Op.bytesLess
    rw [less_irrefl l]
    have : ¬ a < a := UInt8.lt_irrefl a
    simp [this]
theorem ltT_irrefl (a : ByteArray) : ltT a a = false := less_irrefl _
/-- cmp.Compare of texts. -/
def cmpS (a b : ByteArray) : Int := if ltT a b then -1 else if eqT a b then 0 else 1
def cmpI (a b : Int) : Int := if a < b then -1 else if a = b then 0 else 1
def canT (a : ByteArray) : Bool := canonB a.data.toList
def numT (a : ByteArray) : Int := numOf a.data.toList
def befT (a b : ByteArray) : Bool := if canT a && canT b then decide (numT a < numT b) else if canT a != canT b then canT a else ltT a b
def cmpT (a b : ByteArray) : Int := if canT a && canT b then cmpI (numT a) (numT b) else if canT a then -1 else if canT b then 1 else cmpS a b

theorem canT_inj {a b : ByteArray} (ha : canT a = true) (hb : canT b = true) (h : numT a = numT b) : a = b := by
  unfold canT canonB at ha hb
  unfold numT at h
  have h1 := of_decide_eq_true ha
  have h2 := of_decide_eq_true hb
  rw [h] at h1
  exact ByteArray.ext (Array.toList_inj.1 (h1.symm.trans h2))
theorem cmpT_zero (a b : ByteArray) : cmpT a b = 0 ↔ a = b := by
  constructor
  · unfold cmpT
    cases ha : canT a <;> cases hb : canT b <;> simp only [Bool.and_true, Bool.and_false, Bool.false_eq_true, if_true, if_false]
    · unfold cmpS
      split
      · intro h; cases h
      · split
        · rename_i h; intro _; exact (eqT_iff a b).1 h
        · intro h; cases h
    · intro h; cases h
    · intro h; cases h
    · unfold cmpI
      split
      · intro h; cases h
      · split
        · rename_i h; intro _; exact canT_inj ha hb h
        · intro h; cases h
  · rintro rfl
    unfold cmpT
    cases ha : canT a
    · unfold cmpS; simp [ltT_irrefl, eqT_refl]
    · unfold cmpI; simp
theorem cmpT_neg (a b : ByteArray) : decide (cmpT a b < 0) = befT a b := by
  unfold cmpT befT
  cases ha : canT a <;> cases hb : canT b <;> simp only [Bool.and_true, Bool.and_false, Bool.false_eq_true, if_true, if_false, bne_self_eq_false, Bool.bne_true, Bool.bne_false, Bool.not_false]
  · unfold cmpS
    cases h : ltT a b
    · cases h2 : eqT a b <;> rfl
    · rfl
  · rfl
  · rfl
  · unfold cmpI
    by_cases h : numT a < numT b
    · rw [if_pos h, decide_eq_true h]; rfl
    · rw [if_neg h, decide_eq_false h]
      split <;> rfl
theorem cmpS_zero (a b : ByteArray) : cmpS a b = 0 ↔ a = b := by
  constructor
  · unfold cmpS
    split
    · intro h; cases h
    · split
      · rename_i h; intro _; exact (eqT_iff a b).1 h
      · intro h; cases h
  · rintro rfl; unfold cmpS; simp [ltT_irrefl, eqT_refl]
theorem cmpS_neg (a b : ByteArray) : decide (cmpS a b < 0) = ltT a b := by
  unfold cmpS
  cases h : ltT a b
  · cases h2 : eqT a b <;> rfl
  · rfl

def befSubs : List ByteArray → List ByteArray → Bool
  | a :: x, b :: y => if a = b then befSubs x y else befT a b
  | x, y => decide (x.length < y.length)
def cmpSubs : List ByteArray → List ByteArray → Int
  | a :: x, b :: y => if cmpT a b = 0 then cmpSubs x y else cmpT a b
  | [], [] => 0
  | [], _ :: _ => -1
  | _ :: _, [] => 1
theorem cmpSubs_neg : ∀ (x y : List ByteArray), decide (cmpSubs x y < 0) = befSubs x y
  | [], [] => rfl
  | [], _ :: _ => by
    show decide ((-1 : Int) < 0) = decide (0 < _ + 1)
    rw [decide_eq_true (by omega), decide_eq_true (by omega)]
  | _ :: _, [] => by
    show decide ((1 : Int) < 0) = decide (_ + 1 < 0)
    rw [decide_eq_false (by omega), decide_eq_false (by omega)]
  | a :: x, b :: y => by
    unfold cmpSubs befSubs
    by_cases h : a = b
    · rw [if_pos h, if_pos ((cmpT_zero a b).2 h)]; exact cmpSubs_neg x y
    · rw [if_neg h, if_neg (fun e => h ((cmpT_zero a b).1 e))]; exact cmpT_neg a b
def befLoc (n : ByteArray) (x : List ByteArray) (m : ByteArray) (y : List ByteArray) : Bool := ltT n m || (eqT n m && befSubs x y)
def cmpLoc (n : ByteArray) (x : List ByteArray) (m : ByteArray) (y : List ByteArray) : Int := if cmpS n m = 0 then cmpSubs x y else cmpS n m
theorem cmpLoc_neg (n : ByteArray) (x : List ByteArray) (m : ByteArray) (y : List ByteArray) : decide (cmpLoc n x m y < 0) = befLoc n x m y := by
  unfold cmpLoc befLoc
  by_cases h : n = m
  · subst h
    rw [if_pos ((cmpS_zero n n).2 rfl), ltT_irrefl, eqT_refl, cmpSubs_neg]; rfl
  · rw [if_neg (fun e => h ((cmpS_zero n m).1 e)), cmpS_neg, eqT_false h, Bool.false_and, Bool.or_false]
theorem cmpLoc_nonneg (n : ByteArray) (x : List ByteArray) (m : ByteArray) (y : List ByteArray) : decide (0 ≤ cmpLoc n x m y) = !befLoc n x m y := by
  rw [← cmpLoc_neg]
  by_cases h : cmpLoc n x m y < 0
  · rw [decide_eq_true h, decide_eq_false (by omega)]; rfl
  · rw [decide_eq_false h, decide_eq_true (by omega)]; rfl
/-- The first place where two lists differ. -/
theorem befSubs_skip : ∀ (k : Nat) (x y : List ByteArray), x.take k = y.take k → k ≤ x.length → k ≤ y.length → befSubs x y = befSubs (x.drop k) (y.drop k)
  | 0, _, _, _, _, _ => rfl
  | k + 1, [], _, _, h, _ => absurd h (by simp)
  | k + 1, _ :: _, [], _, _, h => absurd h (by simp)
  | k + 1, a :: x, b :: y, h, h1, h2 => by
    rw [List.take_succ_cons, List.take_succ_cons] at h
    injection h with h3 h4
    rw [List.drop_succ_cons, List.drop_succ_cons, ← befSubs_skip k x y h4 (by simpa using h1) (by simpa using h2)]
    show (if a = b then befSubs x y else befT a b) = _
    rw [if_pos h3]
theorem befSubs_at (k : Nat) (x y : List ByteArray) (h : x.take k = y.take k) (h1 : k < x.length) (h2 : k < y.length) (hd : x.getD k ByteArray.empty ≠ y.getD k ByteArray.empty) : befSubs x y = befT (x.getD k ByteArray.empty) (y.getD k ByteArray.empty) := by
  rw [befSubs_skip k x y h (by omega) (by omega), List.drop_eq_getElem_cons h1, List.drop_eq_getElem_cons h2]
  rw [List.getD_eq_getElem?_getD, List.getD_eq_getElem?_getD, List.getElem?_eq_getElem h1, List.getElem?_eq_getElem h2] at hd ⊢
  show (if x[k] = y[k] then _ else befT x[k] y[k]) = _
  rw [if_neg (by simpa using hd)]
  rfl
theorem befSubs_end (k : Nat) (x y : List ByteArray) (h : x.take k = y.take k) (h1 : k ≤ x.length) (h2 : k ≤ y.length) (he : k = x.length ∨ k = y.length) : befSubs x y = decide (x.length < y.length) := by
  rw [befSubs_skip k x y h h1 h2]
  have hx : (x.drop k).length = x.length - k := List.length_drop ..
  have hy : (y.drop k).length = y.length - k := List.length_drop ..
  have e : decide (x.length < y.length) = decide ((x.drop k).length < (y.drop k).length) := by rw [hx, hy, decide_eq_decide]; omega
  rw [e]
  rcases he with he | he
  · have : x.drop k = [] := List.eq_nil_of_length_eq_zero (by omega)
    rw [this]; cases y.drop k <;> rfl
  · have : y.drop k = [] := List.eq_nil_of_length_eq_zero (by omega)
    rw [this]; cases x.drop k <;> rfl
theorem cmpSubs_skip : ∀ (k : Nat) (x y : List ByteArray), x.take k = y.take k → k ≤ x.length → k ≤ y.length → cmpSubs x y = cmpSubs (x.drop k) (y.drop k)
  | 0, _, _, _, _, _ => rfl
  | k + 1, [], _, _, h, _ => absurd h (by simp)
  | k + 1, _ :: _, [], _, _, h => absurd h (by simp)
  | k + 1, a :: x, b :: y, h, h1, h2 => by
    rw [List.take_succ_cons, List.take_succ_cons] at h
    injection h with h3 h4
    rw [List.drop_succ_cons, List.drop_succ_cons, ← cmpSubs_skip k x y h4 (by simpa using h1) (by simpa using h2)]
    show (if cmpT a b = 0 then cmpSubs x y else cmpT a b) = _
    rw [if_pos ((cmpT_zero a b).2 h3)]
theorem cmpSubs_at (k : Nat) (x y : List ByteArray) (h : x.take k = y.take k) (h1 : k < x.length) (h2 : k < y.length) (hd : cmpT (x.getD k ByteArray.empty) (y.getD k ByteArray.empty) ≠ 0) : cmpSubs x y = cmpT (x.getD k ByteArray.empty) (y.getD k ByteArray.empty) := by
  rw [cmpSubs_skip k x y h (by omega) (by omega), List.drop_eq_getElem_cons h1, List.drop_eq_getElem_cons h2]
  rw [List.getD_eq_getElem?_getD, List.getD_eq_getElem?_getD, List.getElem?_eq_getElem h1, List.getElem?_eq_getElem h2] at hd ⊢
  show (if cmpT x[k] y[k] = 0 then _ else cmpT x[k] y[k]) = _
  rw [if_neg (by simpa using hd)]
  rfl
theorem cmpSubs_long (x y : List ByteArray) (h : x.take y.length = y) (h1 : y.length < x.length) : cmpSubs x y = 1 := by
  rw [cmpSubs_skip y.length x y (by rw [h, List.take_length]) (by omega) (Nat.le_refl _), List.drop_length, List.drop_eq_getElem_cons h1]
  rfl
theorem cmpSubs_short (x y : List ByteArray) (h : x = y.take x.length) (h1 : x.length < y.length) : cmpSubs x y = -1 := by
  rw [cmpSubs_skip x.length x y (by rw [List.take_length]; exact h) (Nat.le_refl _) (by omega), List.drop_length, List.drop_eq_getElem_cons h1]
  rfl
theorem cmpSubs_same (x : List ByteArray) : cmpSubs x x = 0 := by
  rw [cmpSubs_skip x.length x x rfl (Nat.le_refl _) (Nat.le_refl _), List.drop_length]
  rfl
theorem take_next (k : Nat) (x y : List ByteArray) (h : x.take k = y.take k) (h1 : k < x.length) (h2 : k < y.length) (he : x.getD k ByteArray.empty = y.getD k ByteArray.empty) : x.take (k + 1) = y.take (k + 1) := by
  rw [List.take_succ_eq_append_getElem h1, List.take_succ_eq_append_getElem h2, h]
  rw [List.getD_eq_getElem?_getD, List.getD_eq_getElem?_getD, List.getElem?_eq_getElem h1, List.getElem?_eq_getElem h2] at he
  rw [show x[k] = y[k] from he]
end Go.Proofs.YtfibjcaidnofmaaGreatDoor

/- Reading a plain form: the reference's reader and the program's, as plain functions, and that both read back what the plain form says. -/
namespace Go.Proofs.YtfibjcaidnofmaaGreatDoor

def numCh (c : UInt8) : Bool := isDig c || c == 45 || c == 46

/-- What stands behind a double quote: the reference's reading. -/
def qS : List UInt8 → List UInt8 × List UInt8
  | [] => ([], [])
  | [c] => if c = 34 then ([], []) else ([c], [])
  | c :: d :: r => if c = 34 then (if d = 34 then (34 :: (qS r).1, (qS r).2) else ([], d :: r)) else (c :: (qS (d :: r)).1, (qS (d :: r)).2)
/-- The program's: none where no quote ends it. -/
def qI : List UInt8 → Option (List UInt8 × List UInt8)
  | [] => none
  | [c] => if c = 34 then some ([], []) else none
  | c :: d :: r => if c = 34 then (if d = 34 then (qI r).map (fun p => (34 :: p.1, p.2)) else some ([], d :: r)) else (qI (d :: r)).map (fun p => (c :: p.1, p.2))
theorem qS_plain (c : UInt8) (l : List UInt8) (h : c ≠ 34) : qS (c :: l) = (c :: (qS l).1, (qS l).2) := by
  cases l with
  | nil => unfold qS; rw [if_neg h]
  | cons d r => conv => lhs; unfold qS
                rw [if_neg h]
theorem qS_two (r : List UInt8) : qS (34 :: 34 :: r) = (34 :: (qS r).1, (qS r).2) := by
  conv => lhs; unfold qS
  rw [if_pos rfl, if_pos rfl]
theorem qS_end (l : List UInt8) (h : ∀ r, l ≠ 34 :: r) : qS (34 :: l) = ([], l) := by
  cases l with
  | nil => unfold qS; rw [if_pos rfl]
  | cons d r =>
    have hd : d ≠ 34 := fun e => h r (by rw [e])
    conv => lhs; unfold qS
    rw [if_pos rfl, if_neg hd]
theorem qI_plain (c : UInt8) (l : List UInt8) (h : c ≠ 34) : qI (c :: l) = (qI l).map (fun p => (c :: p.1, p.2)) := by
  cases l with
  | nil => unfold qI; rw [if_neg h]; rfl
  | cons d r => conv => lhs; unfold qI
                rw [if_neg h]
theorem qI_two (r : List UInt8) : qI (34 :: 34 :: r) = (qI r).map (fun p => (34 :: p.1, p.2)) := by
  conv => lhs; unfold qI
  rw [if_pos rfl, if_pos rfl]
theorem qI_end (l : List UInt8) (h : ∀ r, l ≠ 34 :: r) : qI (34 :: l) = some ([], l) := by
  cases l with
  | nil => unfold qI; rw [if_pos rfl]
  | cons d r =>
    have hd : d ≠ 34 := fun e => h r (by rw [e])
    conv => lhs; unfold qI
    rw [if_pos rfl, if_neg hd]
theorem qI_doubled (r rest : List UInt8) (h : ∀ z, rest ≠ 34 :: z) : qI (doubled r ++ 34 :: rest) = some (r, rest) := by
  induction r with
  | nil => exact qI_end rest h
  | cons c r ih =>
    by_cases hc : c = 34
    · subst hc
      have e : doubled (34 :: r) = 34 :: 34 :: doubled r := by unfold doubled; rw [List.flatMap_cons]; rfl
      rw [e, List.cons_append, List.cons_append, qI_two, ih]; rfl
    · have e : doubled (c :: r) = c :: doubled r := by unfold doubled; rw [List.flatMap_cons, if_neg hc]; rfl
      rw [e, List.cons_append, qI_plain c _ hc, ih]; rfl
theorem formP_first (l : List UInt8) (h : l ≠ []) : formP l = 34 :: (doubled l ++ [34]) ∨ formP l = 36 :: 67 :: 40 :: (codesTo l ++ [41]) := by
  cases l with
  | nil => exact absurd rfl h
  | cons c r =>
    rw [show formP (c :: r) = if showsC c then quoteP (c :: r) else codesP (c :: r) from rfl]
    split
    · left; exact quoteP_eq _
    · right; exact codesP_eq _
theorem codesTo_pos (r : List UInt8) : r.length ≤ (codesTo r).length := by
  induction r with
  | nil => exact Nat.zero_le _
  | cons c r ih =>
    have h1 := decDigits_ge 0 c.toNat
    cases r with
    | nil =>
      rw [codesTo_first]
      by_cases h : 1 ≤ c.toNat
      · exact h1 (by omega)
      · rw [decDigits_small (by omega)]; exact Nat.le_refl _
    | cons d r =>
      have e : codesTo (c :: d :: r) = Lib.decDigits c.toNat ++ 44 :: codesTo (d :: r) := by
        unfold codesTo
        rw [List.map_cons, join_cons, List.map_cons, join_cons, List.map_cons, List.flatten_cons]
        simp
      rw [e]
      simp only [List.length_append, List.length_cons] at ih ⊢
      omega
theorem moreP_rest (k : Nat) (l z : List UInt8) (hk : l.length ≤ k) (c : UInt8) (hc : c ≠ 95) (hz : ∀ r, z ≠ c :: r) : ∀ r, moreP k l ++ z ≠ c :: r := by
  intro r e
  by_cases h : l = []
  · subst h; rw [moreP_nil, List.nil_append] at e; exact hz r e
  · rw [moreP_step k l h hk, List.cons_append] at e
    injection e with e1 _
    exact hc e1.symm
theorem trimZ_sub (l : List UInt8) : ∀ c ∈ trimZ l, c ∈ l := by
  intro c hc
  unfold trimZ at hc
  rw [List.mem_reverse] at hc
  exact List.mem_reverse.1 ((List.dropWhile_sublist _).subset hc)
theorem numText_ch (n : Int) : ∀ c ∈ numText n, numCh c = true := by
  have hd : ∀ c, isDig c = true → numCh c = true := fun c h => by unfold numCh; rw [h]; rfl
  have hw : ∀ k, ∀ c ∈ wholeT k, numCh c = true := by
    intro k c hc
    unfold wholeT at hc
    split at hc
    · cases hc
    · exact hd c (decDigits_dig k c hc)
  have hf : ∀ r, ∀ c ∈ fracT r, numCh c = true := by
    intro r c hc
    unfold fracT at hc
    split at hc
    · cases hc
    · rcases List.mem_cons.1 hc with h | h
      · rw [h]; rfl
      · exact hd c (decDigits_dig _ c (List.mem_of_mem_drop (trimZ_sub _ c h)))
  have ha : ∀ a, ∀ c ∈ absT a, numCh c = true := by
    intro a c hc
    unfold absT at hc
    rcases List.mem_append.1 hc with h | h
    · exact hw _ c h
    · exact hf _ c h
  intro c hc
  unfold numText at hc
  split at hc
  · rw [List.mem_singleton.1 hc]; rfl
  · split at hc
    · rcases List.mem_cons.1 hc with h | h
      · rw [h]; rfl
      · exact ha _ c h
    · exact ha _ c hc
theorem canonB_ch (l : List UInt8) (h : canonB l = true) : ∀ c ∈ l, numCh c = true := by
  unfold canonB at h
  have := of_decide_eq_true h
  intro c hc
  rw [← this] at hc
  exact numText_ch _ c hc
theorem takeWhile_all (p : UInt8 → Bool) (z : List UInt8) (hz : ∀ c r, z = c :: r → p c = false) : ∀ l : List UInt8, (∀ c ∈ l, p c = true) → (l ++ z).takeWhile p = l ∧ (l ++ z).dropWhile p = z
  | [], _ => by
    cases z with
    | nil => exact ⟨rfl, rfl⟩
    | cons c r =>
      have := hz c r rfl
      rw [List.nil_append, List.takeWhile_cons, List.dropWhile_cons, this]
      exact ⟨rfl, rfl⟩
  | c :: l, h => by
    obtain ⟨h1, h2⟩ := takeWhile_all p z hz l (fun x hx => h x (List.mem_cons_of_mem _ hx))
    rw [List.cons_append, List.takeWhile_cons, List.dropWhile_cons, h c (List.mem_cons_self ..)]
    exact ⟨by rw [if_pos rfl, h1], by rw [if_pos rfl, h2]⟩
end Go.Proofs.YtfibjcaidnofmaaGreatDoor

/- The reference's order walked: l02Before, l02SubsBefore, SubsBefore, l03Less. -/
namespace Go.Proofs.YtfibjcaidnofmaaGreatDoor
open Go.RowKit

theorem getD_mem0 {α : Type} {fs : List α} {d : α} {k : Nat} (h : k < fs.length) : fs.getD k d ∈ fs := by
  rw [List.getD_eq_getElem?_getD, List.getElem?_eq_getElem h]
  exact List.getElem_mem _

set_option maxHeartbeats 4000000 in
theorem l02Before_any (a b : ByteArray) (ha : a.size ≤ 1048576) (hb : b.size ≤ 1048576) (w : World) : Calls Tryz.prog 180 #[.string a, .string b] w fun e w' => e = .returned (.bool (befT a b)) ∧ Below w.heap.size w w' := by
  have HA := Lib.hid (fun W => l01Canon_any a ha W)
  have HB := Lib.hid (fun W => l01Canon_any b hb W)
  have HNA := Lib.hid (fun W => l01Of_any a ha W)
  have HNB := Lib.hid (fun W => l01Of_any b hb W)
  have HR := Lib.hid (show befT a b = (if canonB a.data.toList && canonB b.data.toList then decide (numOf a.data.toList < numOf b.data.toList) else if canonB a.data.toList != canonB b.data.toList then canonB a.data.toList else Op.bytesLess a.toList b.toList) from rfl)
  generalize befT a b = R at *
  generalize numOf a.data.toList = m at *
  generalize numOf b.data.toList = n at *
  generalize canonB a.data.toList = p at *
  generalize canonB b.data.toList = q at *
  cases p <;> cases q
  all_goals
    go_enter Tryz.func180, Tryz.ntmps180
    go_wp2_with fail
    refine (HA.out _).mono ?_; rintro e1 w1 ⟨rfl, hb1⟩
    have HB1 := Lib.hid hb1; clear hb1
    go_wp2_with fail
    refine (HB.out _).mono ?_; rintro e2 w2 ⟨rfl, hb2⟩
    have HB2 := Lib.hid (HB1.out.trans (hb2.mono HB1.out.size)); clear hb2
    go_wp2_with fail
  · go_ret
    exact ⟨by rw [HR.out]; rfl, HB2.out⟩
  · go_ret
    exact ⟨by rw [HR.out]; rfl, HB2.out⟩
  · go_ret
    exact ⟨by rw [HR.out]; rfl, HB2.out⟩
  · refine (HNA.out _).mono ?_; rintro e3 w3 ⟨rfl, hb3⟩
    have HB3 := Lib.hid (show Below w.heap.size w w3 from by first | exact HB2.out.trans (hb3.mono HB2.out.size) | exact hb3 ▸ HB2.out); clear hb3
    go_wp2_with fail
    refine (HNB.out _).mono ?_; rintro e4 w4 ⟨rfl, hb4⟩
    have HB4 := Lib.hid (show Below w.heap.size w w4 from by first | exact HB3.out.trans (hb4.mono HB3.out.size) | exact hb4 ▸ HB3.out); clear hb4
    go_wp2_with fail
    go_ret
    exact ⟨by rw [HR.out]; rfl, HB4.out⟩

set_option maxHeartbeats 4000000 in
theorem l02SubsBefore_any (A B : Option Addr) (n m c d lo hi lo' hi' : Nat) (xs ys : List ByteArray) (w : World) (ha : StrR w lo hi A n xs) (hb : StrR w lo' hi' B m ys) (hhi : hi ≤ w.heap.size) (hhi' : hi' ≤ w.heap.size)
    (hn : n ≤ 1048576) (_hm : m ≤ 1048576) (hsx : ∀ x ∈ xs, x.size ≤ 1048576) (hsy : ∀ x ∈ ys, x.size ≤ 1048576) :
    Calls Tryz.prog 138 #[.slice A n c, .slice B m d] w fun e w' => e = .returned (.bool (befSubs xs ys)) ∧ Below w.heap.size w w' := by
  have HLX := Lib.hid ha.1; have HLY := Lib.hid hb.1
  have HA := Lib.hid ha; have HB := Lib.hid hb
  have HSX := Lib.hid hsx; have HSY := Lib.hid hsy
  clear ha hb hsx hsy
  go_enter Tryz.func138, Tryz.ntmps138
  go_wp2_with fail
  go_loopw [5] (fun i wr => ∃ k q : Nat, k ≤ n ∧ k ≤ m ∧ i = .int .i64 k ∧ wr = w.drewN q ∧ xs.take k = ys.take k) (fun i _ => n - (intOf i).toNat)
  case atStart => exact ⟨0, 0, Nat.zero_le _, Nat.zero_le _, rfl, rfl, rfl⟩
  case round =>
    obtain ⟨k, q, hkn, hkm, rfl, rfl, ht⟩ := hrel
    have HT := Lib.hid ht; clear ht
    by_cases h1 : k < n
    · have i1 : (k : Int) < (n : Int) := by omega
      by_cases h2 : k < m
      · have i2 : (k : Int) < (m : Int) := by omega
        have i0 : (0 : Int) ≤ (k : Int) := by omega
        obtain ⟨ba, oa, rfl, _, hba, ca⟩ := HA.out.at_ h1
        obtain ⟨bb, ob, rfl, _, hbb, cb⟩ := HB.out.at_ h2
        have hk1 : k < xs.length := by rw [HLX.out]; exact h1
        have hk2 : k < ys.length := by rw [HLY.out]; exact h2
        have hX := HSX.out _ (getD_mem0 (d := ByteArray.empty) hk1)
        have hY := HSY.out _ (getD_mem0 (d := ByteArray.empty) hk2)
        have HNX := Lib.hid (fun he => take_next k xs ys HT.out hk1 hk2 he)
        have HAT := Lib.hid (fun hd => befSubs_at k xs ys HT.out hk1 hk2 hd)
        have HBF := Lib.hid (fun W => l02Before_any (xs.getD k ByteArray.empty) (ys.getD k ByteArray.empty) hX hY W)
        generalize xs.getD k ByteArray.empty = X at *
        generalize ys.getD k ByteArray.empty = Y at *
        by_cases he : X = Y
        · have hq : (X.toList == Y.toList) = true := by rw [he]; exact beq_self_eq_true _
          have HE := Lib.hid he
          clear he
          go_wp2_with fail
          go_quiet (fail)
          go_wp2_with fail
          go_roundw
          case rel => exact ⟨k + 1, _, by omega, by omega, by go_num, rfl, HNX.out HE.out⟩
          case measure => simp [intOf]; omega
        · have hq : (X.toList == Y.toList) = false := eqT_false he
          have HE := Lib.hid he
          clear he
          go_wp2_with fail
          go_quiet (fail)
          go_wp2_with fail
          generalize hWW : (w.drewN q).drewN nq = W at *
          have HBW := Lib.hid (show Below w.heap.size w W from hWW ▸ ⟨rfl, rfl, rfl, Nat.le_refl _, fun _ _ => rfl⟩)
          have cA : W.cell? ⟨ba, oa + k, none⟩ = some (.string X) := by rw [← hWW]; exact ca
          have cB : W.cell? ⟨bb, ob + k, none⟩ = some (.string Y) := by rw [← hWW]; exact cb
          have hwa : ba < W.drew.heap.size := (show ba < W.heap.size by have := HBW.out.size; omega)
          have hwb : bb < W.drew.heap.size := (show bb < W.heap.size by have := HBW.out.size; omega)
          have HBd := Lib.hid HBW.out.drew
          clear hWW ca cb
          go_region_held3 (fun w' => w'.cell? ⟨ba, oa + k, none⟩ = some (.string X) ∧ w'.cell? ⟨bb, ob + k, none⟩ = some (.string Y) ∧ Below w.heap.size w w')
            (first | exact ⟨cA, cB, HBW.out⟩ | exact ⟨cA, cB, HBd.out⟩ | exact ⟨(hb5.cell hwa).trans cA, (hb5.cell hwb).trans cB, HBd.out.trans (hb5.mono HBd.out.size)⟩)
            (first | (go_at_call 180; refine (HBF.out _).mono ?_; rintro e5 w5 ⟨rfl, hb5⟩))
          have HB5 := Lib.hid (HBd.out.trans (hb5.mono HBd.out.size))
          clear hb5
          go_wp2_with fail
          go_ret
          exact ⟨by rw [HAT.out HE.out]; rfl, HB5.out⟩
      · have i2 : ¬ (k : Int) < (m : Int) := by omega
        have hR := befSubs_end k xs ys HT.out (by rw [HLX.out]; omega) (by rw [HLY.out]; omega) (.inr (by rw [HLY.out]; omega))
        rw [HLX.out, HLY.out, decide_eq_false (by omega)] at hR
        have HR := Lib.hid hR
        have n1 : ¬ (n : Int) < (m : Int) := by omega
        clear hR
        go_wp2_with fail
        go_ret
        exact ⟨by rw [HR.out]; first | rfl | exact congrArg (fun b => Ending.returned (.bool b)) (by first | rfl | (simp; omega)), below_drewN' _ _⟩
    · have i1 : ¬ (k : Int) < (n : Int) := by omega
      have hR := befSubs_end k xs ys HT.out (by rw [HLX.out]; omega) (by rw [HLY.out]; omega) (.inl (by rw [HLX.out]; omega))
      rw [HLX.out, HLY.out] at hR
      have HR := Lib.hid hR
      clear hR
      by_cases h2 : n < m
      · have n1 : (n : Int) < (m : Int) := by omega
        rw [decide_eq_true h2] at HR
        go_wp2_with fail
        go_ret
        exact ⟨by rw [HR.out]; first | rfl | exact congrArg (fun b => Ending.returned (.bool b)) (by first | rfl | (simp; omega)), below_drewN' _ _⟩
      · have n1 : ¬ (n : Int) < (m : Int) := by omega
        rw [decide_eq_false h2] at HR
        go_wp2_with fail
        go_ret
        exact ⟨by rw [HR.out]; first | rfl | exact congrArg (fun b => Ending.returned (.bool b)) (by first | rfl | (simp; omega)), below_drewN' _ _⟩

set_option maxHeartbeats 1000000 in
theorem specSubsBefore_any (A B : Option Addr) (n m c d lo hi lo' hi' : Nat) (xs ys : List ByteArray) (w : World) (ha : StrR w lo hi A n xs) (hb : StrR w lo' hi' B m ys) (hhi : hi ≤ w.heap.size) (hhi' : hi' ≤ w.heap.size)
    (hn : n ≤ 1048576) (hm : m ≤ 1048576) (hsx : ∀ x ∈ xs, x.size ≤ 1048576) (hsy : ∀ x ∈ ys, x.size ≤ 1048576) :
    Calls Tryz.prog 82 #[.slice A n c, .slice B m d] w fun e w' => e = .returned (.bool (befSubs xs ys)) ∧ Below w.heap.size w w' := by
  have HC := Lib.hid (l02SubsBefore_any A B n m c d lo hi lo' hi' xs ys w ha hb hhi hhi' hn hm hsx hsy)
  go_enter Tryz.func82, Tryz.ntmps82
  go_wp2_with fail
  refine HC.out.mono ?_; rintro e1 w1 ⟨rfl, hb1⟩
  go_wp2_with fail
  go_ret
  exact ⟨rfl, hb1⟩

set_option maxHeartbeats 2000000 in
theorem l03Less_any (s t : ByteArray) (A B : Option Addr) (n m c d lo hi lo' hi' : Nat) (xs ys : List ByteArray) (w : World) (ha : StrR w lo hi A n xs) (hb : StrR w lo' hi' B m ys) (hhi : hi ≤ w.heap.size) (hhi' : hi' ≤ w.heap.size)
    (hn : n ≤ 1048576) (hm : m ≤ 1048576) (hsx : ∀ x ∈ xs, x.size ≤ 1048576) (hsy : ∀ x ∈ ys, x.size ≤ 1048576) :
    Calls Tryz.prog 29 #[.string s, .slice A n c, .string t, .slice B m d] w fun e w' => e = .returned (.bool (befLoc s xs t ys)) ∧ Below w.heap.size w w' := by
  have HC := Lib.hid (specSubsBefore_any A B n m c d lo hi lo' hi' xs ys w ha hb hhi hhi' hn hm hsx hsy)
  have HR := Lib.hid (show befLoc s xs t ys = (Op.bytesLess s.toList t.toList || ((s.toList == t.toList) && befSubs xs ys)) from rfl)
  generalize befLoc s xs t ys = R at *
  generalize befSubs xs ys = S at *
  clear ha hb
  cases hl : Op.bytesLess s.toList t.toList
  · rw [hl] at HR
    cases he : (s.toList == t.toList)
    · rw [he] at HR
      go_enter Tryz.func29, Tryz.ntmps29
      go_wp2_with fail
      go_ret
      exact ⟨by rw [HR.out]; rfl, Below.refl _ _⟩
    · rw [he] at HR
      go_enter Tryz.func29, Tryz.ntmps29
      go_wp2_with fail
      refine HC.out.mono ?_; rintro e1 w1 ⟨rfl, hb1⟩
      go_wp2_with fail
      go_ret
      exact ⟨by rw [HR.out]; rfl, hb1⟩
  · rw [hl] at HR
    go_enter Tryz.func29, Tryz.ntmps29
    go_wp2_with fail
    go_ret
    exact ⟨by rw [HR.out]; rfl, Below.refl _ _⟩
end Go.Proofs.YtfibjcaidnofmaaGreatDoor
