/- Keys of locations, plainly: how subscripts are written and read again; a tree's binary form. -/
import Derived.Test.YtnnabkldceklmaaGreatDoorJoinBTAh
namespace Go.Proofs.YtnnabkldceklmaaGreatDoor
def val256 (l : List UInt8) : Nat := l.foldl (fun a c => 256 * a + c.toNat) 0
theorem val256_snoc (l : List UInt8) (c : UInt8) : val256 (l ++ [c]) = 256 * val256 l + c.toNat := by
 unfold val256; rw [List.foldl_append]; rfl
def beTo (n i : Nat) : List UInt8 := (List.range i).map fun j => UInt8.ofNat (n / 2 ^ (56 - 8 * j))
theorem beTo_next (n i : Nat) : beTo n (i + 1) = beTo n i ++ [UInt8.ofNat (n / 2 ^ (56 - 8 * i))] := by
 unfold beTo; rw [List.range_succ, List.map_append]; rfl
theorem beTo_len (n i : Nat) : (beTo n i).length = i := by unfold beTo; simp
theorem val_beTo (n : Nat) (hn : n < 18446744073709551616) : val256 (beTo n 8) = n := by
 have h0 : val256 (beTo n 0) = 0 := rfl
 have hs : ∀ i, val256 (beTo n (i + 1)) = 256 * val256 (beTo n i) + n / 2 ^ (56 - 8 * i) % 256 := fun i => by
  rw [beTo_next, val256_snoc]
  congr 1
 have h1 := hs 0; have h2 := hs 1; have h3 := hs 2; have h4 := hs 3; have h5 := hs 4; have h6 := hs 5; have h7 := hs 6; have h8 := hs 7
 simp only [Nat.reduceAdd, Nat.reduceMul, Nat.reduceSub, Nat.reducePow, Nat.div_one] at h1 h2 h3 h4 h5 h6 h7 h8
 rw [h8]
 omega
def encZ : Nat := 1000000000000000000
def nulE (l : List UInt8) : List UInt8 := l.flatMap fun c => if c = 0 then [0, 255] else [c]
def putS (l : List UInt8) : List UInt8 := if canonB l then 1 :: beTo (numOf l + encZ).toNat 8 else 2 :: (nulE l ++ [0, 0])
def putAll (xs : List ByteArray) : List UInt8 := (xs.map fun x => putS x.data.toList).flatten
theorem nulE_len (l : List UInt8) : (nulE l).length ≤ 2 * l.length := by
 induction l with
 | nil => exact Nat.le_refl _
 | cons c l ih =>
  have h : nulE (c :: l) = (if c = 0 then [0, 255] else [c]) ++ nulE l := rfl
  rw [h, List.length_append, List.length_cons]
  split <;> simp <;> omega
theorem putS_len (l : List UInt8) : (putS l).length ≤ 9 + 2 * l.length := by
 unfold putS
 split
 ·rw [List.length_cons, beTo_len]; omega
 ·have := nulE_len l
  rw [List.length_cons, List.length_append]; simp; omega
theorem putAll_nil : putAll [] = [] := rfl
theorem putAll_cons (x : ByteArray) (xs : List ByteArray) : putAll (x :: xs) = putS x.data.toList ++ putAll xs := rfl
theorem putAll_snoc (x : ByteArray) (xs : List ByteArray) : putAll (xs ++ [x]) = putAll xs ++ putS x.data.toList := by
 unfold putAll; simp
theorem putAll_len : ∀ (xs : List ByteArray), (∀ x ∈ xs, x.size ≤ 24) → (putAll xs).length ≤ 57 * xs.length
 | [], _ => Nat.le_refl _
 | x :: xs, h => by
  have h1 := putAll_len xs fun y hy => h y (List.mem_cons_of_mem _ hy)
  have h2 := putS_len x.data.toList
  have h3 := h x (List.mem_cons_self ..)
  have h4 : x.data.toList.length = x.size := by simp
  rw [putAll_cons, List.length_append, List.length_cons]
  omega
theorem subsB_all {xs : List ByteArray} (h : subsB xs = true) : xs.length ≤ 4 ∧ ∀ x ∈ xs, 1 ≤ x.size ∧ x.size ≤ 24 := by
 unfold subsB at h
 simp only [Bool.and_eq_true, decide_eq_true_eq, List.all_eq_true] at h
 exact ⟨h.1, fun x hx => by have := h.2 x hx; unfold subB at this; simp only [Bool.and_eq_true, decide_eq_true_eq] at this; exact this⟩
def putP (xs : List ByteArray) : List UInt8 := if subsB xs then putAll xs else []
def numI (n : Int) : List UInt8 := if n.natAbs ≤ maxNum then numText n else []
def getNum (l : List UInt8) : Option (List UInt8 × List UInt8) :=
 if l.length < 8 then none else if 2 * encZ < val256 (l.take 8) then none else some (numI ((val256 (l.take 8) : Int) - encZ), l.drop 8)
def getStr : List UInt8 → List UInt8 → Option (List UInt8 × List UInt8)
 | acc, c :: d :: r => if c ≠ 0 then getStr (acc ++ [c]) (d :: r) else if d = 0 then some (acc, r) else if d = 255 then getStr (acc ++ [0]) r else none
 | _, _ => none
def getOne : List UInt8 → Option (List UInt8 × List UInt8)
 | [] => none
 | c :: r => if c = 1 then getNum r else if c = 2 then getStr [] r else none
def getAll : Nat → List (List UInt8) → List UInt8 → Option (List (List UInt8))
 | 0, acc, _ => some acc
 | k + 1, acc, l => if l = [] then some acc else match getOne l with
  | none => none
  | some (x, r) => getAll k (acc ++ [x]) r
theorem getNum_put {l r : List UInt8} (h : canonB l = true) : getNum (beTo (numOf l + encZ).toNat 8 ++ r) = some (l, r) := by
 have hb := numOf_abs l
 have hl : (beTo (numOf l + encZ).toNat 8).length = 8 := beTo_len _ _
 have hv : val256 (beTo (numOf l + encZ).toNat 8) = (numOf l + encZ).toNat := val_beTo _ (by unfold maxNum at hb; unfold encZ; omega)
 unfold getNum
 rw [if_neg (by rw [List.length_append, hl]; omega), List.take_append_of_le_length (by omega), List.take_of_length_le (by omega), hv, if_neg (by unfold maxNum at hb; unfold encZ; omega), List.drop_append_of_le_length (by omega), List.drop_of_length_le (by omega), List.nil_append]
 have hn : ((numOf l + (encZ : Int)).toNat : Int) - (encZ : Int) = numOf l := by unfold maxNum at hb; unfold encZ; omega
 rw [hn]
 unfold numI
 rw [if_pos hb]
 unfold canonB at h
 rw [decide_eq_true_eq] at h
 rw [h]
theorem getStr_put : ∀ (l acc r : List UInt8), getStr acc (nulE l ++ 0 :: 0 :: r) = some (acc ++ l, r)
 | [], acc, r => by
  show getStr acc (0 :: 0 :: r) = _
  rw [getStr, if_neg (by simp), if_pos rfl, List.append_nil]
 | c :: l, acc, r => by
  have ih := fun a => getStr_put l a r
  by_cases hc : c = 0
  ·subst hc
   show getStr acc (0 :: 255 :: (nulE l ++ 0 :: 0 :: r)) = _
   rw [getStr, if_neg (by simp), if_neg (by decide), if_pos rfl, ih]
   simp
  ·have h : nulE (c :: l) = c :: nulE l := by
    show (if c = 0 then [0, 255] else [c]) ++ nulE l = _
    rw [if_neg hc]; rfl
   have h2 : ∃ d t, nulE l ++ 0 :: 0 :: r = d :: t := by
    cases h3 : nulE l ++ 0 :: 0 :: r with
    | nil => have := congrArg List.length h3; simp at this
    | cons d t => exact ⟨d, t, rfl⟩
   obtain ⟨d, t, h2⟩ := h2
   rw [h, List.cons_append, h2, getStr, if_pos hc, ← h2, ih]
   simp
theorem getOne_put (l r : List UInt8) : getOne (putS l ++ r) = some (l, r) := by
 unfold putS
 split
 ·rename_i h
  show getOne (1 :: (beTo (numOf l + encZ).toNat 8 ++ r)) = _
  rw [getOne, if_pos rfl, getNum_put h]
 ·show getOne (2 :: (nulE l ++ [0, 0] ++ r)) = _
  rw [getOne, if_neg (by decide), if_pos rfl, List.append_assoc]
  exact getStr_put l [] r
theorem putS_ne (l : List UInt8) : ∃ c t, putS l = c :: t := by
 unfold putS
 split
 ·exact ⟨_, _, rfl⟩
 ·exact ⟨_, _, rfl⟩
theorem getAll_put : ∀ (xs : List ByteArray) (k : Nat) (acc : List (List UInt8)), xs.length < k → getAll k acc (putAll xs) = some (acc ++ xs.map fun x => x.data.toList)
 | [], k + 1, acc, _ => by rw [putAll_nil, getAll, if_pos rfl]; simp
 | x :: xs, k + 1, acc, h => by
  obtain ⟨c, t, hc⟩ := putS_ne x.data.toList
  rw [putAll_cons, getAll, if_neg (by rw [hc]; simp), getOne_put]
  show getAll k (acc ++ [x.data.toList]) (putAll xs) = _
  rw [getAll_put xs k _ (by rw [List.length_cons] at h; omega)]
  simp
theorem mkB_self (x : ByteArray) : mkB x.data.toList = x := by
 unfold mkB
 cases x; simp
def getP (l : List UInt8) : Option (List ByteArray) := match getAll 5 [] l with
 | none => none
 | some L => if subsB (L.map mkB) ∧ putAll (L.map mkB) = l then some (L.map mkB) else none
theorem getP_put {xs : List ByteArray} (h : subsB xs = true) : getP (putAll xs) = some xs := by
 have h1 := subsB_all h
 have e : (xs.map fun x => x.data.toList).map mkB = xs := by
  rw [List.map_map]
  conv => rhs; rw [← List.map_id xs]
  exact List.map_congr_left fun x _ => mkB_self x
 unfold getP
 rw [getAll_put xs 5 [] (by omega), List.nil_append]
 show (if subsB (List.map mkB _) ∧ putAll (List.map mkB _) = _ then some (List.map mkB _) else none) = _
 rw [e, if_pos ⟨h, rfl⟩]
theorem getP_some {l : List UInt8} {xs : List ByteArray} (h : getP l = some xs) : subsB xs = true ∧ putAll xs = l := by
 unfold getP at h
 split at h
 ·cases h
 ·split at h
  ·rename_i h1
   injection h with h
   subst h
   exact h1
  ·cases h
def placeP (l : List UInt8) : Option (ByteArray × List ByteArray) :=
 if 1 ∈ l then match getP (l.drop ((l.takeWhile fun c => c != 1).length + 1)) with
  | none => none
  | some xs => if nameB (mkB (l.takeWhile fun c => c != 1)) then some (mkB (l.takeWhile fun c => c != 1), xs) else none
 else none
theorem name_no1 {s : ByteArray} (h : nameB s = true) : ∀ c ∈ s.data.toList, c ≠ 1 := by
 unfold nameB at h
 simp only [Bool.and_eq_true, decide_eq_true_eq] at h
 have h2 := h.2
 unfold nameTo at h2
 intro c hc
 obtain ⟨j, hj, e⟩ := List.getElem_of_mem hc
 have hjs : j < s.size := by simpa using hj
 have h3 := (List.all_eq_true.1 h2) j (List.mem_range.2 hjs)
 have hg : s.get! j = c := by
  have : s.get! j = s.data.toList[j] := by
   unfold ByteArray.get!
   simp [getElem!_pos s.data j (by simpa using hjs)]
  rw [this, e]
 rw [hg] at h3
 rintro rfl
 revert h3
 unfold nameCh letterB digitB
 simp
theorem takeWhile_stop {p : UInt8 → Bool} : ∀ (a : List UInt8) (c : UInt8) (r : List UInt8), (∀ x ∈ a, p x = true) → p c = false → (a ++ c :: r).takeWhile p = a
 | [], c, r, _, hc => by rw [List.nil_append, List.takeWhile_cons, if_neg (by rw [hc]; exact Bool.false_ne_true)]
 | x :: a, c, r, h, hc => by
  rw [List.cons_append, List.takeWhile_cons, if_pos (h x (List.mem_cons_self ..)), takeWhile_stop a c r (fun y hy => h y (List.mem_cons_of_mem _ hy)) hc]
theorem cut_at1 (l : List UInt8) (h : 1 ∈ l) : l = (mkB (l.takeWhile fun c => c != 1)).data.toList ++ 1 :: l.drop ((l.takeWhile fun c => c != 1).length + 1) := by
 show l = l.takeWhile _ ++ _
 induction l with
 | nil => cases h
 | cons c l ih =>
  by_cases hc : c = 1
  ·subst hc; rfl
  ·rw [List.takeWhile_cons, if_pos (by simpa using hc)]
   rw [List.cons_append, List.length_cons, List.drop_succ_cons, ← ih (by rcases List.mem_cons.1 h with e | e; exact absurd e.symm hc; exact e)]
theorem nulK_one : ∀ (l : List UInt8) (k : Nat), l.count 0 ≤ k → Go.Lib.replaceK [0] [0, 255] k l = nulE l
 | [], k, _ => by
  cases k with
  | zero => rfl
  | succ k => unfold Go.Lib.replaceK; rw [if_pos (by rfl)]; rfl
 | b :: l, k, h => by
  by_cases hb : b = 0
  ·subst hb
   rw [List.count_cons_self] at h
   obtain ⟨k, rfl⟩ : ∃ m, k = m + 1 := ⟨k - 1, by omega⟩
   rw [Go.Lib.replaceK_hit [0] [0, 255] k (0 :: l) 0 (by rw [index_cons, if_pos rfl]; rfl)]
   show [0, 255] ++ Go.Lib.replaceK [0] [0, 255] k l = _
   rw [nulK_one l k (by omega)]
   rfl
  ·rw [List.count_cons_of_ne hb] at h
   have hd : nulE (b :: l) = b :: nulE l := by unfold nulE; rw [List.flatMap_cons, if_neg hb]; rfl
   rw [hd, ← nulK_one l k h]
   cases k with
   | zero => rfl
   | succ k =>
    by_cases hm : Go.Lib.index l [0] = -1
    ·unfold Go.Lib.replaceK
     rw [index_cons, if_neg hb, if_pos hm, hm]; rfl
    ·obtain ⟨i, hi⟩ : ∃ i : Nat, Go.Lib.index l [0] = i := ⟨(Go.Lib.index l [0]).toNat, by have := Go.Lib.index_ge l [0]; omega⟩
     rw [Go.Lib.replaceK_hit [0] [0, 255] k l i hi, Go.Lib.replaceK_hit [0] [0, 255] k (b :: l) (i + 1) (by rw [index_cons, if_neg hb, if_neg hm, hi]; rfl)]
     rw [List.take_succ_cons]
     show b :: l.take i ++ [0, 255] ++ Go.Lib.replaceK [0] [0, 255] k (l.drop (i + 1)) = b :: (l.take i ++ [0, 255] ++ Go.Lib.replaceK [0] [0, 255] k (l.drop (i + 1)))
     rfl
theorem replaceAll_nul (l : List UInt8) : Go.Lib.replaceAll l [0] [0, 255] = nulE l := by
 unfold Go.Lib.replaceAll Go.Lib.replace
 rw [if_neg (by decide)]
 unfold Go.Lib.replaceNum
 rw [if_pos (.inl (by decide)), Go.Lib.count_one]
 exact nulK_one l _ (Nat.le_refl _)
end Go.Proofs.YtnnabkldceklmaaGreatDoor
/- B-trees, plainly: pages that are right; one walk over a tree's pages, which both sides follow. -/
namespace Go.Proofs.YtnnabkldceklmaaGreatDoor
def ltS (a b : ByteArray) : Bool := Op.bytesLess a.toList b.toList
theorem less_tr : ∀ (a b c : List UInt8), Op.bytesLess a b = true → Op.bytesLess b c = true → Op.bytesLess a c = true
 | _, [], _, h, _ => by rename_i a _; cases a <;> simp [Op.bytesLess] at h
 | _, _ :: _, [], _, h => by simp [Op.bytesLess] at h
 | [], _ :: _, _ :: _, _, _ => rfl
 | a :: x, b :: y, c :: z, h1, h2 => by
  have ih := less_tr x y z
  simp only [Op.bytesLess, Bool.or_eq_true, decide_eq_true_eq, Bool.and_eq_true, beq_iff_eq] at h1 h2 ⊢
  rcases h1 with h1 | ⟨rfl, h1⟩
  ·rcases h2 with h2 | ⟨rfl, h2⟩
   ·exact .inl (UInt8.lt_trans h1 h2)
   ·exact .inl h1
  ·rcases h2 with h2 | ⟨rfl, h2⟩
   ·exact .inl h2
   ·exact .inr ⟨rfl, ih h1 h2⟩
theorem ltS_trans {a b c : ByteArray} (h1 : ltS a b = true) (h2 : ltS b c = true) : ltS a c = true := less_tr _ _ _ h1 h2
abbrev bD : ByteArray := ByteArray.empty
def keyAtB (l : List ByteArray) (k : Nat) : Bool := (placeP (l.getD k bD).data.toList).isSome && (decide (k = 0) || ltS (l.getD (k - 1) bD) (l.getD k bD))
def keysTo (l : List ByteArray) (k : Nat) : Bool := (List.range k).all (keyAtB l)
def keysAll (l : List ByteArray) : Bool := keysTo l l.length
def inB (n lo hi : Int) : Bool := decide (lo ≤ n) && decide (n ≤ hi)
def kidsOk (l : List Int) : Bool := l.all fun n => inB n 1 64
def pageP (p : TyPage) : Bool := keysAll p.2.1 && if p.1 then decide (p.2.1.length ≤ 6) && decide (p.2.2.1.length = p.2.1.length) && (p.2.2.1.all fun v => decide (v.size ≤ 64)) && decide (p.2.2.2.length = 0)
 else decide (2 ≤ p.2.2.2.length) && decide (p.2.2.2.length ≤ 6) && decide (p.2.1.length + 1 = p.2.2.2.length) && decide (p.2.2.1.length = 0) && kidsOk p.2.2.2
theorem keysTo_next (l : List ByteArray) (k : Nat) : keysTo l (k + 1) = (keysTo l k && keyAtB l k) := by
 unfold keysTo; rw [List.range_succ, List.all_append]; simp
theorem keysTo_at {l : List ByteArray} {n k : Nat} (h : keysTo l n = true) (hk : k < n) : keyAtB l k = true := (List.all_eq_true.1 h) k (List.mem_range.2 hk)
theorem keysTo_less {l : List ByteArray} {n : Nat} (h : keysTo l n = true) : ∀ (i d : Nat), i + d + 1 < n → ltS (l.getD i bD) (l.getD (i + d + 1) bD) = true
 | i, 0, hd => by
  have := keysTo_at h hd
  unfold keyAtB at this
  simp only [Bool.and_eq_true, Bool.or_eq_true, decide_eq_true_eq] at this
  rcases this.2 with h0 | h0
  ·omega
  ·simpa using h0
 | i, d + 1, hd => by
  have h1 := keysTo_less h i d (by omega)
  have h2 := keysTo_less h (i + d + 1) 0 (by omega)
  exact ltS_trans h1 h2
def slotAt (l : List TySlot) (id : Int) : Option TyPage := (l.find? fun s => s.1 == id).map (·.2)
abbrev WSt := List Int × Option Nat
def keysIn (p : TyPage) (low high : ByteArray) : Bool := p.2.1.all fun k => !(ltS k low) && (decide (high.size = 0) || ltS k high)
def fillOf (p : TyPage) : Nat := if p.1 then p.2.1.length else p.2.2.2.length
def lowOf (p : TyPage) (low : ByteArray) (k : Nat) : ByteArray := if 0 < k then p.2.1.getD (k - 1) bD else low
def highOf (p : TyPage) (high : ByteArray) (k : Nat) : ByteArray := if k < p.2.1.length then p.2.1.getD k bD else high
def kidsTo (f : Int → ByteArray → ByteArray → WSt → Option WSt) (p : TyPage) (low high : ByteArray) : Nat → WSt → Option WSt
 | 0, st => some st
 | k + 1, st => match kidsTo f p low high k st with
  | none => none
  | some s => f (p.2.2.2.getD k 0) (lowOf p low k) (highOf p high k) s
def walkP (l : List TySlot) : Nat → Nat → Int → ByteArray → ByteArray → WSt → Option WSt
 | 0, _, _, _, _, _ => none
 | n + 1, d, id, low, high, st =>
  match slotAt l id with
  | none => none
  | some p =>
   if st.1.contains id then none
   else if keysIn p low high = false then none
   else if d ≠ 0 ∧ fillOf p < 3 then none
   else if p.1 then (match st.2 with
    | none => some (id :: st.1, some d)
    | some e => if e = d then some (id :: st.1, some e) else none)
   else kidsTo (fun kid lo hi s => walkP l n (d + 1) kid lo hi s) p low high p.2.2.2.length (id :: st.1, st.2)
def slotB (l : List TySlot) (k : Nat) : Bool := inB (l.getD k (0, shPage.d)).1 1 64 && pageP (l.getD k (0, shPage.d)).2 && (decide (k = 0) || decide ((l.getD (k - 1) (0, shPage.d)).1 < (l.getD k (0, shPage.d)).1))
def slotsTo (l : List TySlot) (k : Nat) : Bool := (List.range k).all (slotB l)
def btreeP (b : TyBtree) : Bool := slotsTo b.2 b.2.length && match walkP b.2 65 0 b.1 bD bD ([], none) with
 | none => false
 | some st => decide (st.1.length = b.2.length)
theorem slotsTo_next (l : List TySlot) (k : Nat) : slotsTo l (k + 1) = (slotsTo l k && slotB l k) := by
 unfold slotsTo; rw [List.range_succ, List.all_append]; simp
theorem slotsTo_at {l : List TySlot} {n k : Nat} (h : slotsTo l n = true) (hk : k < n) : slotB l k = true := (List.all_eq_true.1 h) k (List.mem_range.2 hk)
theorem slotsTo_less {l : List TySlot} {n : Nat} (h : slotsTo l n = true) : ∀ (i d : Nat), i + d + 1 < n → (l.getD i (0, shPage.d)).1 < (l.getD (i + d + 1) (0, shPage.d)).1
 | i, 0, hd => by
  have := slotsTo_at h hd
  unfold slotB at this
  simp only [Bool.and_eq_true, Bool.or_eq_true, decide_eq_true_eq] at this
  rcases this.2 with h0 | h0
  ·omega
  ·simpa using h0
 | i, d + 1, hd => by
  have h1 := slotsTo_less h i d (by omega)
  have h2 := slotsTo_less h (i + d + 1) 0 (by omega)
  exact Int.lt_trans h1 h2
theorem slotB_in {l : List TySlot} {n k : Nat} (h : slotsTo l n = true) (hk : k < n) : 1 ≤ (l.getD k (0, shPage.d)).1 ∧ (l.getD k (0, shPage.d)).1 ≤ 64 := by
 have := slotsTo_at h hk
 unfold slotB inB at this
 simp only [Bool.and_eq_true, decide_eq_true_eq] at this
 exact this.1.1
theorem slots_few {l : List TySlot} (h : slotsTo l l.length = true) : l.length ≤ 64 := by
 have hk : ∀ k, k < l.length → (k : Int) + 1 ≤ (l.getD k (0, shPage.d)).1 := by
  intro k
  induction k with
  | zero => intro hk; have := slotB_in h hk; omega
  | succ k ih =>
   intro hk
   have h1 := ih (by omega)
   have h2 := slotsTo_less h k 0 (by omega)
   simp only [Nat.add_zero] at h2
   omega
 rcases Nat.eq_zero_or_pos l.length with h0 | h0
 ·omega
 ·have h1 := hk (l.length - 1) (by omega)
  have h2 := slotB_in h (show l.length - 1 < l.length by omega)
  omega
def unmet (l : List TySlot) (met : List Int) : Nat := (l.filter fun s => !met.contains s.1).length
theorem unmet_le (l : List TySlot) (met : List Int) : unmet l met ≤ l.length := List.length_filter_le _ _
theorem unmet_mono {l : List TySlot} {met met' : List Int} (h : ∀ x ∈ met, x ∈ met') : unmet l met' ≤ unmet l met := by
 unfold unmet
 induction l with
 | nil => exact Nat.le_refl _
 | cons s l ih =>
  rw [List.filter_cons, List.filter_cons]
  by_cases h1 : s.1 ∈ met
  ·rw [if_neg (by simp [h s.1 h1]), if_neg (by simp [h1])]
   exact ih
  ·rw [if_pos (show (!met.contains s.1) = true by simp [h1])]
   split
   ·simp only [List.length_cons]; omega
   ·simp only [List.length_cons]; omega
theorem unmet_less {l : List TySlot} {met : List Int} {id : Int} {p : TyPage} (hs : slotAt l id = some p) (hm : met.contains id = false) : unmet l (id :: met) < unmet l met := by
 unfold slotAt at hs
 unfold unmet
 induction l with
 | nil => cases hs
 | cons s l ih =>
  rw [List.filter_cons, List.filter_cons]
  by_cases h1 : s.1 = id
  ·subst h1
   rw [if_neg (by simp), if_pos (by rw [hm]; rfl)]
   have := unmet_mono (l := l) (met := met) (met' := s.1 :: met) fun x hx => List.mem_cons_of_mem _ hx
   unfold unmet at this
   rw [List.length_cons]
   omega
  ·have hs' : (l.find? fun s => s.1 == id).map (·.2) = some p := by
    rw [List.find?_cons] at hs
    have : (s.1 == id) = false := by simpa using h1
    rw [this] at hs
    exact hs
   have := ih hs'
   by_cases h2 : s.1 ∈ met
   ·rw [if_neg (by simp [h2]), if_neg (by simp [h2])]
    exact this
   ·rw [if_pos (by simp [h1, h2]), if_pos (by simp [h2]), List.length_cons, List.length_cons]
    omega
theorem kidsTo_met {f : Int → ByteArray → ByteArray → WSt → Option WSt} (hf : ∀ id lo hi st st', f id lo hi st = some st' → ∀ x ∈ st.1, x ∈ st'.1) {p : TyPage} {low high : ByteArray} : ∀ (k : Nat) (st st' : WSt), kidsTo f p low high k st = some st' → ∀ x ∈ st.1, x ∈ st'.1
 | 0, st, st', h => by
  injection h with h
  subst h
  exact fun x hx => hx
 | k + 1, st, st', h => by
  rw [kidsTo] at h
  cases hk : kidsTo f p low high k st with
  | none => rw [hk] at h; cases h
  | some s =>
   rw [hk] at h
   exact fun x hx => hf _ _ _ _ _ h x (kidsTo_met hf k st s hk x hx)
theorem walkP_met (l : List TySlot) : ∀ (n d : Nat) (id : Int) (lo hi : ByteArray) (st st' : WSt), walkP l n d id lo hi st = some st' → (∀ x ∈ st.1, x ∈ st'.1)
 | 0, _, _, _, _, _, _, h => by cases h
 | n + 1, d, id, lo, hi, st, st', h => by
  rw [walkP] at h
  split at h
  ·cases h
  ·split at h
   ·cases h
   ·split at h
    ·cases h
    ·split at h
     ·cases h
     ·split at h
      ·split at h
       ·injection h with h; subst h; exact fun x hx => List.mem_cons_of_mem _ hx
       ·split at h
        ·injection h with h; subst h; exact fun x hx => List.mem_cons_of_mem _ hx
        ·cases h
      ·exact fun x hx => kidsTo_met (fun id lo hi st st' h => walkP_met l n (d + 1) id lo hi st st' h) _ _ _ h x (List.mem_cons_of_mem _ hx)
theorem keysIn_ends {p : TyPage} {low high : ByteArray} (hk : keysAll p.2.1 = true) : keysIn p low high = (decide (p.2.1.length = 0) || (!(ltS (p.2.1.getD 0 bD) low) && (decide (high.size = 0) || ltS (p.2.1.getD (p.2.1.length - 1) bD) high))) := by
 unfold keysIn
 rw [Bool.eq_iff_iff, List.all_eq_true]
 constructor
 ·intro h
  by_cases h0 : p.2.1.length = 0
  ·simp [h0]
  ·have h1 := h (p.2.1.getD 0 bD) (by rw [List.getD_eq_getElem?_getD, List.getElem?_eq_getElem (by omega)]; exact List.getElem_mem _)
   have h2 := h (p.2.1.getD (p.2.1.length - 1) bD) (by rw [List.getD_eq_getElem?_getD, List.getElem?_eq_getElem (by omega)]; exact List.getElem_mem _)
   rw [Bool.and_eq_true] at h1 h2
   rw [Bool.or_eq_true, Bool.and_eq_true]
   exact .inr ⟨h1.1, h2.2⟩
 ·intro h x hx
  obtain ⟨i, hi, rfl⟩ := List.getElem_of_mem hx
  have hgi : p.2.1.getD i bD = p.2.1[i] := by rw [List.getD_eq_getElem?_getD, List.getElem?_eq_getElem hi]; rfl
  rw [Bool.or_eq_true, Bool.and_eq_true] at h
  rcases h with h | ⟨h1, h2⟩
  ·have := of_decide_eq_true h; omega
  ·rw [Bool.and_eq_true, ← hgi]
   refine ⟨?_, ?_⟩
   ·rw [Bool.not_eq_true'] at h1 ⊢
    rcases Nat.eq_zero_or_pos i with rfl | hp
    ·exact h1
    ·have h3 := keysTo_less hk 0 (i - 1) (by omega)
     rw [show 0 + (i - 1) + 1 = i by omega] at h3
     cases h4 : ltS (p.2.1.getD i bD) low with
     | false => rfl
     | true => rw [ltS_trans h3 h4] at h1; cases h1
   ·rw [Bool.or_eq_true] at h2 ⊢
    rcases h2 with h2 | h2
    ·exact .inl h2
    ·right
     rcases Nat.lt_or_ge i (p.2.1.length - 1) with h5 | h5
     ·have h3 := keysTo_less hk i (p.2.1.length - 1 - i - 1) (by omega)
      rw [show i + (p.2.1.length - 1 - i - 1) + 1 = p.2.1.length - 1 by omega] at h3
      exact ltS_trans h3 h2
     ·rw [show i = p.2.1.length - 1 by omega]; exact h2
def pageS (p : TyPage) : Bool := keysTo p.2.1 (min p.2.1.length 7) && decide (p.2.1.length ≤ 6) && if p.1 then (List.range (min p.2.2.1.length 7)).all (fun k => decide ((p.2.2.1.getD k bD).size ≤ 64)) && decide (p.2.2.1.length = p.2.1.length) && decide (p.2.2.2.length = 0)
 else (List.range (min p.2.2.2.length 7)).all (fun k => inB (p.2.2.2.getD k 0) 1 64) && decide (2 ≤ p.2.2.2.length) && decide (p.2.2.2.length ≤ 6) && decide (p.2.1.length + 1 = p.2.2.2.length) && decide (p.2.2.1.length = 0)
theorem range_all {α : Type} (l : List α) (d : α) (f : α → Bool) : (List.range l.length).all (fun k => f (l.getD k d)) = l.all f := by
 rw [Bool.eq_iff_iff, List.all_eq_true, List.all_eq_true]
 constructor
 ·intro h x hx
  obtain ⟨i, hi, rfl⟩ := List.getElem_of_mem hx
  have := h i (List.mem_range.2 hi)
  rw [List.getD_eq_getElem?_getD, List.getElem?_eq_getElem hi] at this
  exact this
 ·intro h i hi
  have hi := List.mem_range.1 hi
  rw [List.getD_eq_getElem?_getD, List.getElem?_eq_getElem hi]
  exact h _ (List.getElem_mem hi)
theorem pageS_eq (p : TyPage) : pageS p = pageP p := by
 unfold pageS pageP keysAll kidsOk
 by_cases h6 : p.2.1.length ≤ 6
 ·rw [show min p.2.1.length 7 = p.2.1.length by omega, decide_eq_true h6, Bool.and_true]
  congr 1
  cases p.1 with
  | true =>
   simp only [if_true]
   by_cases hv : p.2.2.1.length = p.2.1.length
   ·rw [show min p.2.2.1.length 7 = p.2.2.1.length by omega, range_all p.2.2.1 bD fun v => decide (v.size ≤ 64)]
    rw [decide_eq_true hv]
    simp
   ·rw [decide_eq_false hv]
    simp
  | false =>
   simp only [Bool.false_eq_true, if_false]
   by_cases hv : p.2.2.2.length ≤ 6
   ·rw [show min p.2.2.2.length 7 = p.2.2.2.length by omega, range_all p.2.2.2 0 fun n => inB n 1 64]
    generalize p.2.2.2.all (fun n => inB n 1 64) = b
    cases b <;> simp
   ·rw [decide_eq_false hv]
    simp
 ·rw [decide_eq_false h6]
  cases p.1 with
  | true => simp
  | false =>
   simp only [Bool.and_false, Bool.false_and, Bool.false_eq_true, if_false]
   have : (decide (p.2.2.2.length ≤ 6) && decide (p.2.1.length + 1 = p.2.2.2.length)) = false := by
    by_cases h : p.2.2.2.length ≤ 6
    ·rw [decide_eq_false (show ¬ p.2.1.length + 1 = p.2.2.2.length by omega), Bool.and_false]
    ·rw [decide_eq_false h, Bool.false_and]
   rw [Bool.and_assoc (decide (2 ≤ _)), this]
   simp
end Go.Proofs.YtnnabkldceklmaaGreatDoor
