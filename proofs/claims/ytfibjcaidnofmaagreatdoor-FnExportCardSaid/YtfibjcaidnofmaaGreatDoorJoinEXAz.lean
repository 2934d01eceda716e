/- Keys of locations, plainly: how subscripts are written and read again; a tree's binary form. -/
import Derived.Test.YtfibjcaidnofmaaGreatDoorJoinEXAb
import Derived.Test.YtfibjcaidnofmaaGreatDoorJoinEXAf
import Derived.Test.YtfibjcaidnofmaaGreatDoorJoinEXAx
import Derived.Test.YtfibjcaidnofmaaGreatDoorJoinEXAu
import Derived.Test.YtfibjcaidnofmaaGreatDoorJoinEXAe
import Derived.Test.YtfibjcaidnofmaaGreatDoorJoinEXAo
import Derived.Test.YtfibjcaidnofmaaGreatDoorJoinEXAc
import Derived.WalkArith
namespace Go.Proofs.YtfibjcaidnofmaaGreatDoor

/-! ### Numbers, eight bytes -/
def val256 (l : List UInt8) : Nat := l.foldl (fun a c => 256 * a + c.toNat) 0
theorem val256_snoc (l : List UInt8) (c : UInt8) : val256 (l ++ [c]) = 256 * val256 l + c.toNat := by
  unfold val256; rw [List.foldl_append]; rfl
/-- The first i of the eight bytes of n, the greatest first. -/
def beTo (n i : Nat) : List UInt8 := (List.range i).map fun j => UInt8.ofNat (n / 2 ^ (56 - 8 * j))
theorem beTo_next (n i : Nat) : beTo n (i + 1) = beTo n i ++ [UInt8.ofNat (n / 2 ^ (56 - 8 * i))] := by
  unfold beTo; rw [List.range_succ, List.map_append]; rfl
theorem beTo_len (n i : Nat) : (beTo n i).length = i := by unfold beTo; simp
theorem val_beTo (n : Nat) (hn : n < 18446744073709551616) : val256 (beTo n 8) = n := by
  have h0 : val256 (beTo n 0) = 0 := rfl
  have hs : ∀ i, val256 (beTo n (i + 1)) = 256 * val256 (beTo n i) + n / 2 ^ (56 - 8 * i) % 256 := fun i => by
    rw [beTo_next, val256_snoc]
    congr 1
  have h1 := hs 0; have h2 := hs 1; have h3 := hs 2; have h4 := hs 3; have h5 := hs 4; have h6 := hs 5; have h7 := hs 6; have h8 := hs 7
  simp only [Nat.reduceAdd, Nat.reduceMul, Nat.reduceSub, Nat.reducePow, Nat.div_one] at h1 h2 h3 h4 h5 h6 h7 h8
  rw [h8]
  omega

/-! ### A subscript -/
def encZ : Nat := 1000000000000000000
def nulE (l : List UInt8) : List UInt8 := l.flatMap fun c => if c = 0 then [0, 255] else [c]
def putS (l : List UInt8) : List UInt8 := if canonB l then 1 :: beTo (numOf l + encZ).toNat 8 else 2 :: (nulE l ++ [0, 0])
def putAll (xs : List ByteArray) : List UInt8 := (xs.map fun x => putS x.data.toList).flatten
theorem nulE_len (l : List UInt8) : (nulE l).length ≤ 2 * l.length := by
  induction l with
  | nil => exact Nat.le_refl _
  | cons c l ih =>
    have h : nulE (c :: l) = (if c = 0 then [0, 255] else [c]) ++ nulE l := rfl
    rw [h, List.length_append, List.length_cons]
    split <;> simp <;> omega
theorem putS_len (l : List UInt8) : (putS l).length ≤ 9 + 2 * l.length := by
  unfold putS
  split
  · rw [List.length_cons, beTo_len]; omega
  · have := nulE_len l
    rw [List.length_cons, List.length_append]; simp; omega
theorem putAll_nil : putAll [] = [] := rfl
theorem putAll_cons (x : ByteArray) (xs : List ByteArray) : putAll (x :: xs) = putS x.data.toList ++ putAll xs := rfl
theorem putAll_snoc (x : ByteArray) (xs : List ByteArray) : putAll (xs ++ [x]) = putAll xs ++ putS x.data.toList := by
  unfold putAll; simp
theorem putAll_len : ∀ (xs : List ByteArray), (∀ x ∈ xs, x.size ≤ 24) → (putAll xs).length ≤ 57 * xs.length
  | [], _ => Nat.le_refl _
  | x :: xs, h => by
    have h1 := putAll_len xs fun y hy => h y (List.mem_cons_of_mem _ hy)
    have h2 := putS_len x.data.toList
    have h3 := h x (List.mem_cons_self ..)
    have h4 : x.data.toList.length = x.size := by simp
    rw [putAll_cons, List.length_append, List.length_cons]
    omega
theorem subsB_all {xs : List ByteArray} (h : subsB xs = true) : xs.length ≤ 4 ∧ ∀ x ∈ xs, 1 ≤ x.size ∧ x.size ≤ 24 := by
  unfold subsB at h
  simp only [Bool.and_eq_true, decide_eq_true_eq, List.all_eq_true] at h
  exact ⟨h.1, fun x hx => by have := h.2 x hx; unfold subB at this; simp only [Bool.and_eq_true, decide_eq_true_eq] at this; exact this⟩
theorem subsB_len {xs : List ByteArray} (h : subsB xs = true) : (putAll xs).length ≤ 228 := by
  have h1 := subsB_all h
  have := putAll_len xs fun x hx => (h1.2 x hx).2
  omega
/-- What PutSubs writes. -/
def putP (xs : List ByteArray) : List UInt8 := if subsB xs then putAll xs else []
/-- What KeyOf writes. -/
def keyP (name : ByteArray) (xs : List ByteArray) : List UInt8 := if nameB name && subsB xs then name.data.toList ++ 1 :: putAll xs else []

/-! ### Read again -/
def numI (n : Int) : List UInt8 := if n.natAbs ≤ maxNum then numText n else []
def getNum (l : List UInt8) : Option (List UInt8 × List UInt8) :=
  if l.length < 8 then none else if 2 * encZ < val256 (l.take 8) then none else some (numI ((val256 (l.take 8) : Int) - encZ), l.drop 8)
def getStr : List UInt8 → List UInt8 → Option (List UInt8 × List UInt8)
  | acc, c :: d :: r => if c ≠ 0 then getStr (acc ++ [c]) (d :: r) else if d = 0 then some (acc, r) else if d = 255 then getStr (acc ++ [0]) r else none
  | _, _ => none
def getOne : List UInt8 → Option (List UInt8 × List UInt8)
  | [] => none
  | c :: r => if c = 1 then getNum r else if c = 2 then getStr [] r else none
def getAll : Nat → List (List UInt8) → List UInt8 → Option (List (List UInt8))
  | 0, acc, _ => some acc
  | k + 1, acc, l => if l = [] then some acc else match getOne l with
    | none => none
    | some (x, r) => getAll k (acc ++ [x]) r
theorem getNum_put {l r : List UInt8} (h : canonB l = true) : getNum (beTo (numOf l + encZ).toNat 8 ++ r) = some (l, r) := by
  have hb := numOf_abs l
  have hl : (beTo (numOf l + encZ).toNat 8).length = 8 := beTo_len _ _
  have hv : val256 (beTo (numOf l + encZ).toNat 8) = (numOf l + encZ).toNat := val_beTo _ (by unfold maxNum at hb; unfold encZ; omega)
  unfold getNum
  rw [if_neg (by rw [List.length_append, hl]; omega), List.take_append_of_le_length (by omega), List.take_of_length_le (by omega), hv, if_neg (by unfold maxNum at hb; unfold encZ; omega), List.drop_append_of_le_length (by omega), List.drop_of_length_le (by omega), List.nil_append]
  have hn : ((numOf l + (encZ : Int)).toNat : Int) - (encZ : Int) = numOf l := by unfold maxNum at hb; unfold encZ; omega
  rw [hn]
  unfold numI
  rw [if_pos hb]
  unfold canonB at h
  rw [decide_eq_true_eq] at h
  rw [h]
theorem getStr_put : ∀ (l acc r : List UInt8), getStr acc (nulE l ++ 0 :: 0 :: r) = some (acc ++ l, r)
  | [], acc, r => by
    show getStr acc (0 :: 0 :: r) = _
    rw [getStr, if_neg (by simp), if_pos rfl, List.append_nil]
  | c :: l, acc, r => by
    have ih := fun a => getStr_put l a r
    by_cases hc : c = 0
    · subst hc
      show getStr acc (0 :: 255 :: (nulE l ++ 0 :: 0 :: r)) = _
      rw [getStr, if_neg (by simp), if_neg (by decide), if_pos rfl, ih]
      simp
    · have h : nulE (c :: l) = c :: nulE l := by
        show (if c = 0 then [0, 255] else [c]) ++ nulE l = _
        rw [if_neg hc]; rfl
      have h2 : ∃ d t, nulE l ++ 0 :: 0 :: r = d :: t := by
        cases h3 : nulE l ++ 0 :: 0 :: r with
        | nil => have := congrArg List.length h3; simp at this
        | cons d t => exact ⟨d, t, rfl⟩
      obtain ⟨d, t, h2⟩ := h2
      rw [h, List.cons_append, h2, getStr, if_pos hc, ← h2, ih]
      simp
theorem getOne_put (l r : List UInt8) : getOne (putS l ++ r) = some (l, r) := by
  unfold putS
  split
  · rename_i h
    show getOne (1 :: (beTo (numOf l + encZ).toNat 8 ++ r)) = _
    rw [getOne, if_pos rfl, getNum_put h]
  · show getOne (2 :: (nulE l ++ [0, 0] ++ r)) = _
    rw [getOne, if_neg (by decide), if_pos rfl, List.append_assoc]
    exact getStr_put l [] r
theorem putS_ne (l : List UInt8) : ∃ c t, putS l = c :: t := by
  unfold putS
  split
  · exact ⟨_, _, rfl⟩
  · exact ⟨_, _, rfl⟩
theorem getAll_put : ∀ (xs : List ByteArray) (k : Nat) (acc : List (List UInt8)), xs.length < k → getAll k acc (putAll xs) = some (acc ++ xs.map fun x => x.data.toList)
  | [], k + 1, acc, _ => by rw [putAll_nil, getAll, if_pos rfl]; simp
  | x :: xs, k + 1, acc, h => by
    obtain ⟨c, t, hc⟩ := putS_ne x.data.toList
    rw [putAll_cons, getAll, if_neg (by rw [hc]; simp), getOne_put]
    show getAll k (acc ++ [x.data.toList]) (putAll xs) = _
    rw [getAll_put xs k _ (by rw [List.length_cons] at h; omega)]
    simp
theorem mkB_self (x : ByteArray) : mkB x.data.toList = x := by
  unfold mkB
  cases x; simp
/-- What GetSubs reads. -/
def getP (l : List UInt8) : Option (List ByteArray) := match getAll 5 [] l with
  | none => none
  | some L => if subsB (L.map mkB) ∧ putAll (L.map mkB) = l then some (L.map mkB) else none
theorem getP_put {xs : List ByteArray} (h : subsB xs = true) : getP (putAll xs) = some xs := by
  have h1 := subsB_all h
  have e : (xs.map fun x => x.data.toList).map mkB = xs := by
    rw [List.map_map]
    conv => rhs; rw [← List.map_id xs]
    exact List.map_congr_left fun x _ => mkB_self x
  unfold getP
  rw [getAll_put xs 5 [] (by omega), List.nil_append]
  show (if subsB (List.map mkB _) ∧ putAll (List.map mkB _) = _ then some (List.map mkB _) else none) = _
  rw [e, if_pos ⟨h, rfl⟩]
/-- What KeyPlace reads. -/
def placeP (l : List UInt8) : Option (ByteArray × List ByteArray) :=
  if 1 ∈ l then match getP (l.drop ((l.takeWhile fun c => c != 1).length + 1)) with
    | none => none
    | some xs => if nameB (mkB (l.takeWhile fun c => c != 1)) then some (mkB (l.takeWhile fun c => c != 1), xs) else none
  else none
theorem name_no1 {s : ByteArray} (h : nameB s = true) : ∀ c ∈ s.data.toList, c ≠ 1 := by
  unfold nameB at h
  simp only [Bool.and_eq_true, decide_eq_true_eq] at h
  have h2 := h.2
  unfold nameTo at h2
  intro c hc
  obtain ⟨j, hj, e⟩ := List.getElem_of_mem hc
  have hjs : j < s.size := by simpa using hj
  have h3 := (List.all_eq_true.1 h2) j (List.mem_range.2 hjs)
  have hg : s.get! j = c := by
    have : s.get! j = s.data.toList[j] := by
      unfold ByteArray.get!
      simp [getElem!_pos s.data j (by simpa using hjs)]
    rw [this, e]
  rw [hg] at h3
  rintro rfl
  revert h3
  unfold nameCh letterB digitB
  simp
theorem takeWhile_stop {p : UInt8 → Bool} : ∀ (a : List UInt8) (c : UInt8) (r : List UInt8), (∀ x ∈ a, p x = true) → p c = false → (a ++ c :: r).takeWhile p = a
  | [], c, r, _, hc => by rw [List.nil_append, List.takeWhile_cons, if_neg (by rw [hc]; exact Bool.false_ne_true)]
  | x :: a, c, r, h, hc => by
    rw [List.cons_append, List.takeWhile_cons, if_pos (h x (List.mem_cons_self ..)), takeWhile_stop a c r (fun y hy => h y (List.mem_cons_of_mem _ hy)) hc]
theorem placeP_key {name : ByteArray} {xs : List ByteArray} (hn : nameB name = true) (hs : subsB xs = true) : placeP (keyP name xs) = some (name, xs) := by
  have hk : keyP name xs = name.data.toList ++ 1 :: putAll xs := by unfold keyP; rw [hn, hs]; rfl
  have ht : (name.data.toList ++ 1 :: putAll xs).takeWhile (fun c => c != 1) = name.data.toList := takeWhile_stop _ _ _ (fun x hx => by have := name_no1 hn x hx; simpa using this) (by rfl)
  unfold placeP
  rw [hk, if_pos (by simp), ht, mkB_self]
  have hd : (name.data.toList ++ 1 :: putAll xs).drop (name.data.toList.length + 1) = putAll xs := by
    rw [← List.drop_drop, List.drop_left]; rfl
  rw [hd, getP_put hs]
  show (if nameB name = true then _ else _) = _
  rw [if_pos hn]
theorem cut_at1 (l : List UInt8) (h : 1 ∈ l) : l = (mkB (l.takeWhile fun c => c != 1)).data.toList ++ 1 :: l.drop ((l.takeWhile fun c => c != 1).length + 1) := by
  show l = l.takeWhile _ ++ _
  induction l with
  | nil => cases h
  | cons c l ih =>
    by_cases hc : c = 1
    · subst hc; rfl
    · rw [List.takeWhile_cons, if_pos (by simpa using hc)]
      rw [List.cons_append, List.length_cons, List.drop_succ_cons, ← ih (by rcases List.mem_cons.1 h with e | e; exact absurd e.symm hc; exact e)]
theorem keyP_len (name : ByteArray) (xs : List ByteArray) : (keyP name xs).length ≤ 237 := by
  unfold keyP
  split
  · rename_i h
    rw [Bool.and_eq_true] at h
    have h1 := subsB_len h.2
    have h2 : name.size ≤ 8 := by
      have := h.1; unfold nameB at this
      simp only [Bool.and_eq_true, decide_eq_true_eq] at this
      exact this.1.2
    have h3 : name.data.toList.length = name.size := by simp
    rw [List.length_append, List.length_cons]
    omega
  · exact Nat.zero_le _
/-! ### A tree's binary form -/
def sharedP : List UInt8 → List UInt8 → Nat
  | a :: aa, b :: bs => if a = b then sharedP aa bs + 1 else 0
  | _, _ => 0
theorem sharedP_nil (b : List UInt8) : sharedP [] b = 0 := by unfold sharedP; rfl
theorem sharedP_nil' (a : List UInt8) : sharedP a [] = 0 := by cases a <;> rfl
theorem sharedP_cons (a b : UInt8) (aa bs : List UInt8) : sharedP (a :: aa) (b :: bs) = if a = b then sharedP aa bs + 1 else 0 := rfl
theorem sharedP_le : ∀ (a b : List UInt8), sharedP a b ≤ a.length ∧ sharedP a b ≤ b.length
  | [], b => by rw [sharedP_nil]; exact ⟨Nat.zero_le _, Nat.zero_le _⟩
  | a :: aa, [] => ⟨Nat.zero_le _, Nat.zero_le _⟩
  | a :: aa, b :: bs => by
    have := sharedP_le aa bs
    rw [sharedP_cons, List.length_cons, List.length_cons]
    split <;> omega
theorem sharedP_take : ∀ (a b : List UInt8), a.take (sharedP a b) = b.take (sharedP a b)
  | [], b => by rw [sharedP_nil, List.take_zero, List.take_zero]
  | a :: aa, [] => by rw [sharedP_nil', List.take_zero, List.take_zero]
  | a :: aa, b :: bs => by
    rw [sharedP_cons]
    split
    · rename_i h
      rw [List.take_succ_cons, List.take_succ_cons, h, sharedP_take aa bs]
    · rw [List.take_zero, List.take_zero]
theorem shared_join (a b : List UInt8) : a.take (sharedP a b) ++ b.drop (sharedP a b) = b := by rw [sharedP_take, List.take_append_drop]
def shortP (l : List UInt8) : List UInt8 := UInt8.ofNat l.length :: l
def nodKey (x : Nod) : List UInt8 := keyP x.name x.subs
def packOne (last : List UInt8) (x : Nod) : List UInt8 := UInt8.ofNat (sharedP last (nodKey x)) :: (shortP ((nodKey x).drop (sharedP last (nodKey x))) ++ shortP x.value.data.toList)
def packFrom : List UInt8 → List Nod → List UInt8
  | _, [] => []
  | last, x :: xs => packOne last x ++ packFrom (nodKey x) xs
def lastOf (last : List UInt8) : List Nod → List UInt8
  | [] => last
  | x :: xs => lastOf (nodKey x) xs
theorem lastOf_snoc (y : Nod) : ∀ (xs : List Nod) (last : List UInt8), lastOf last (xs ++ [y]) = nodKey y
  | [], _ => rfl
  | x :: xs, _ => lastOf_snoc y xs (nodKey x)
theorem packFrom_snoc (y : Nod) : ∀ (xs : List Nod) (last : List UInt8), packFrom last (xs ++ [y]) = packFrom last xs ++ packOne (lastOf last xs) y
  | [], last => by show packOne last y ++ [] = [] ++ packOne last y; simp
  | x :: xs, last => by
    show packOne last x ++ packFrom (nodKey x) (xs ++ [y]) = packOne last x ++ packFrom (nodKey x) xs ++ _
    rw [packFrom_snoc y xs (nodKey x), List.append_assoc]; rfl
theorem take_nextN (ns : List Nod) {k : Nat} (hk : k < ns.length) : ns.take (k + 1) = ns.take k ++ [ns.getD k nodD] := by
  rw [List.take_succ_eq_append_getElem hk, List.getD_eq_getElem?_getD, List.getElem?_eq_getElem hk]; rfl
theorem drop_nextN (ns : List Nod) {k : Nat} (hk : k < ns.length) : ns.drop k = ns.getD k nodD :: ns.drop (k + 1) := by
  rw [List.drop_eq_getElem_cons hk, List.getD_eq_getElem?_getD, List.getElem?_eq_getElem hk]; rfl
theorem lastOf_next (ns : List Nod) {k : Nat} (hk : k < ns.length) : lastOf [] (ns.take (k + 1)) = nodKey (ns.getD k nodD) := by rw [take_nextN ns hk, lastOf_snoc]
theorem packFrom_next (ns : List Nod) {k : Nat} (hk : k < ns.length) : packFrom [] (ns.take (k + 1)) = packFrom [] (ns.take k) ++ packOne (lastOf [] (ns.take k)) (ns.getD k nodD) := by rw [take_nextN ns hk, packFrom_snoc]
theorem lastOf_len : ∀ (xs : List Nod) (last : List UInt8), last.length ≤ 237 → (lastOf last xs).length ≤ 237
  | [], _, h => h
  | x :: xs, _, _ => lastOf_len xs (nodKey x) (keyP_len _ _)
def packP (ns : List Nod) : List UInt8 := if treB ns then UInt8.ofNat ns.length :: packFrom [] ns else []
theorem packOne_len (last : List UInt8) (x : Nod) (h : nodB x = true) : (packOne last x).length ≤ 304 := by
  have h1 := keyP_len x.name x.subs
  have h2 : x.value.size ≤ 64 := by unfold nodB at h; simp only [Bool.and_eq_true, decide_eq_true_eq] at h; exact h.2
  have h3 : x.value.data.toList.length = x.value.size := by simp
  unfold packOne shortP nodKey
  rw [List.length_cons, List.length_append, List.length_cons, List.length_cons, List.length_drop]
  omega

/-! ### Zero bytes replaced -/
theorem nulK_one : ∀ (l : List UInt8) (k : Nat), l.count 0 ≤ k → Go.Lib.replaceK [0] [0, 255] k l = nulE l
  | [], k, _ => by
    cases k with
    | zero => rfl
    | succ k => unfold Go.Lib.replaceK; rw [if_pos (by rfl)]; rfl
  | b :: l, k, h => by
    by_cases hb : b = 0
    · subst hb
      rw [List.count_cons_self] at h
      obtain ⟨k, rfl⟩ : ∃ m, k = m + 1 := ⟨k - 1, by omega⟩
      rw [Go.Lib.replaceK_hit [0] [0, 255] k (0 :: l) 0 (by rw [index_cons, if_pos rfl]; rfl)]
      show [0, 255] ++ Go.Lib.replaceK [0] [0, 255] k l = _
      rw [nulK_one l k (by omega)]
      rfl
    · rw [List.count_cons_of_ne hb] at h
      have hd : nulE (b :: l) = b :: nulE l := by unfold nulE; rw [List.flatMap_cons, if_neg hb]; rfl
      rw [hd, ← nulK_one l k h]
      cases k with
      | zero => rfl
      | succ k =>
        by_cases hm : Go.Lib.index l [0] = -1
        · unfold Go.Lib.replaceK
          rw [index_cons, if_neg hb, if_pos hm, hm]; rfl
        · obtain ⟨i, hi⟩ : ∃ i : Nat, Go.Lib.index l [0] = i := ⟨(Go.Lib.index l [0]).toNat, by have := Go.Lib.index_ge l [0]; omega⟩
          rw [Go.Lib.replaceK_hit [0] [0, 255] k l i hi, Go.Lib.replaceK_hit [0] [0, 255] k (b :: l) (i + 1) (by rw [index_cons, if_neg hb, if_neg hm, hi]; rfl)]
          rw [List.take_succ_cons]
          show b :: l.take i ++ [0, 255] ++ Go.Lib.replaceK [0] [0, 255] k (l.drop (i + 1)) = b :: (l.take i ++ [0, 255] ++ Go.Lib.replaceK [0] [0, 255] k (l.drop (i + 1)))
          rfl
theorem replaceAll_nul (l : List UInt8) : Go.Lib.replaceAll l [0] [0, 255] = nulE l := by
  unfold Go.Lib.replaceAll Go.Lib.replace
  rw [if_neg (by decide)]
  unfold Go.Lib.replaceNum
  rw [if_pos (.inl (by decide)), Go.Lib.count_one]
  exact nulK_one l _ (Nat.le_refl _)
end Go.Proofs.YtfibjcaidnofmaaGreatDoor

/- The program's writers of keys walked: putSub, PutSubs, KeyOf. -/
namespace Go.Proofs.YtfibjcaidnofmaaGreatDoor
open Go.RowKit

theorem beByte (n : Nat) (i : Nat) : (((UInt8.ofNat (n / 2 ^ (56 - 8 * i))).toNat : Nat) : Int) = (n : Int) / 2 ^ (56 - 8 * i) % 256 := by
  rw [show (UInt8.ofNat (n / 2 ^ (56 - 8 * i))).toNat = n / 2 ^ (56 - 8 * i) % 256 from rfl]
  generalize 56 - 8 * i = m
  rw [Int.natCast_emod, Int.natCast_ediv, Int.natCast_pow]
  rfl

set_option maxHeartbeats 8000000 in
set_option maxRecDepth 100000 in
theorem putSub_any (b : Nat) (bs : List UInt8) (s : ByteArray) (hs : s.size ≤ 65536) (w : World) (h : Bld w b bs) (hl : bs.length ≤ 1000000) (hb : b ≤ w.heap.size) (hE : ∀ W, Below b w W → EnvIn W) :
    Calls Tryz.prog 169 #[.pointer (some ⟨b, 0, none⟩), .string s] w fun e w' => e = .returned (.tuple #[]) ∧ Bld w' b (bs ++ putS s.data.toList) ∧ Below b w w' := by
  have HC := Lib.hid (implIsCanon_any s hs w (hE w (Below.refl _ _)).1)
  have HBL := Lib.hid h
  have HE := Lib.hid hE
  clear h hE
  cases hc : canonB s.data.toList with
  | true =>
    rw [hc] at HC
    have HP := Lib.hid (show putS s.data.toList = 1 :: beTo (numOf s.data.toList + encZ).toNat 8 by unfold putS; rw [if_pos hc])
    have hn := numOf_abs s.data.toList
    have HN := Lib.hid (fun W => numOf_any s hs W)
    obtain ⟨N, hN⟩ : ∃ N : Nat, N = (numOf s.data.toList + encZ).toNat := ⟨_, rfl⟩
    rw [← hN] at HP
    have hNi : numOf s.data.toList + 1000000000000000000 = (N : Int) := by unfold maxNum at hn; unfold encZ at hN; omega
    have hNb : N ≤ 2000000000000000000 := by unfold maxNum at hn; unfold encZ at hN; omega
    unfold maxNum at hn
    clear hN hc
    generalize numOf s.data.toList = z at *
    go_enter Tryz.func169, Tryz.ntmps169
    go_wp2_with fail
    refine HC.out.mono ?_; rintro e1 w1 ⟨rfl, hb1⟩
    have HB1 := Lib.hid (hb1.mono hb)
    have HBL1 := Lib.hid (bld_below HBL.out hb1)
    clear hb1 HC
    go_wp2_with fail
    refine (HN.out _).mono ?_; rintro e2 w2 ⟨rfl, hb2⟩
    have HB2 := Lib.hid (HB1.out.trans (hb2.mono (Nat.le_trans hb HB1.out.size)))
    have HBL2 := Lib.hid (bld_below HBL1.out hb2)
    clear hb2 HN HB1 HBL1
    have HW := Lib.hid (bldByte b bs 1 w2 HBL2.out (by omega) (Nat.le_trans hb HB2.out.size))
    go_wp2_with fail
    refine HW.out.mono ?_; rintro e3 w3 ⟨rfl, hbl3, hb3⟩
    have HBL3 := Lib.hid hbl3
    have HB3 := Lib.hid (HB2.out.trans hb3)
    clear hbl3 hb3 HW HBL2 HB2
    go_wp2_with fail
    go_loopw [5] (fun i wr => ∃ k : Nat, k ≤ 8 ∧ i = .int .i64 (56 - 8 * (k : Int)) ∧ Bld wr b (bs ++ 1 :: beTo N k) ∧ Below b w wr) (fun i _ => (intOf i + 8).toNat)
    case atStart => exact ⟨0, Nat.zero_le _, rfl, HBL3.out, HB3.out⟩
    case round =>
      obtain ⟨k, hk, rfl, hbl, hbr⟩ := hrel
      by_cases hlt : k < 8
      · have i1 : decide ((0 : Int) ≤ 56 - 8 * (k : Int)) = true := by simp; omega
        have hlk := beTo_len N k
        have HW := Lib.hid (bldByte b (bs ++ 1 :: beTo N k) (UInt8.ofNat (N / 2 ^ (56 - 8 * k))) wr hbl (by rw [List.length_append, List.length_cons, hlk]; omega) (Nat.le_trans hb hbr.size))
        rw [beByte] at HW
        have HBR := Lib.hid hbr
        clear hbl hbr hlk
        go_wp2_with fail
        refine HW.out.mono ?_; rintro e4 w4 ⟨rfl, hbl4, hb4⟩
        have HBL4 := Lib.hid hbl4
        have HB4 := Lib.hid (HBR.out.trans hb4)
        clear hbl4 hb4 HW HBR
        go_wp2_with fail
        go_roundw
        case rel => exact ⟨k + 1, by omega, by go_num, by rw [beTo_next, ← List.cons_append, ← List.append_assoc]; exact HBL4.out, HB4.out⟩
        case measure => simp [intOf]; omega
      · obtain rfl : k = 8 := by omega
        have i1 : decide ((0 : Int) ≤ 56 - 8 * ((8 : Nat) : Int)) = false := by simp
        have HBL := Lib.hid hbl; have HBR := Lib.hid hbr
        clear hbl hbr
        go_wp2_with fail
        (try simp only [Exit.inBlock, Exit.then])
        refine bodyPost_ret (results_none rfl _ _ _) rfl ?_
        exact ⟨rfl, by rw [HP.out]; exact HBL.out, HBR.out⟩
  | false =>
    rw [hc] at HC
    have HP := Lib.hid (show putS s.data.toList = 2 :: (nulE s.data.toList ++ [0, 0]) by unfold putS; rw [hc]; rfl)
    have hcn : Lib.countB s ⟨#[0]⟩ ≤ s.size := Lib.countB_le _ (by decide) _ s (Nat.le_refl _)
    have HR := Lib.hid (fun m W hm => Tryz.strings_ReplaceAll s ⟨#[0]⟩ ⟨#[0, 255]⟩ m W (by omega) hm (by decide) (by show s.size + _ * 2 ≤ _; omega))
    have hnl := nulE_len s.data.toList
    have hsl : s.data.toList.length = s.size := by simp
    clear hcn hc
    go_enter Tryz.func169, Tryz.ntmps169
    go_wp2_with fail
    refine HC.out.mono ?_; rintro e1 w1 ⟨rfl, hb1⟩
    have HB1 := Lib.hid (hb1.mono hb)
    have HBL1 := Lib.hid (bld_below HBL.out hb1)
    clear hb1 HC
    have HW := Lib.hid (bldByte b bs 2 w1 HBL1.out (by omega) (Nat.le_trans hb HB1.out.size))
    go_wp2_with fail
    refine HW.out.mono ?_; rintro e3 w3 ⟨rfl, hbl3, hb3⟩
    have HBL3 := Lib.hid hbl3
    have HB3 := Lib.hid (HB1.out.trans hb3)
    clear hbl3 hb3 HW HBL1 HB1
    obtain ⟨m, hm⟩ := (HE.out w3 HB3.out).2
    have HR3 := Lib.hid (HR.out m w3 hm)
    clear HR hm
    go_wp2_with fail
    refine HR3.out.mono ?_; rintro e4 w4 ⟨rfl, hb4⟩
    have HD := Lib.hid (show Go.Lib.replaceAll s.data.toList (⟨#[0]⟩ : ByteArray).data.toList (⟨#[0, 255]⟩ : ByteArray).data.toList = nulE s.data.toList from replaceAll_nul _)
    rw [HD.out]
    generalize nulE s.data.toList = D at *
    have HB4 := Lib.hid (HB3.out.trans (hb4.mono (Nat.le_trans hb HB3.out.size)))
    have HBL4 := Lib.hid (bld_below HBL3.out hb4)
    clear hb4 HBL3 HB3 HR3
    have HW := Lib.hid (bldString b (bs ++ [2]) ⟨D.toArray⟩ w4 HBL4.out (by rw [List.length_append]; show bs.length + 1 + D.toArray.size ≤ _; simp; omega) (Nat.le_trans hb HB4.out.size))
    go_wp2_with fail
    refine HW.out.mono ?_; rintro e5 w5 ⟨rfl, hbl5, hb5⟩
    have HBL5 := Lib.hid hbl5
    have HB5 := Lib.hid (HB4.out.trans hb5)
    clear hbl5 hb5 HW HBL4 HB4
    have HW := Lib.hid (bldString b (bs ++ [2] ++ D) ⟨#[0, 0]⟩ w5 HBL5.out (by rw [List.length_append, List.length_append]; show bs.length + 1 + D.length + 2 ≤ _; omega) (Nat.le_trans hb HB5.out.size))
    go_wp2_with fail
    refine HW.out.mono ?_; rintro e6 w6 ⟨rfl, hbl6, hb6⟩
    have HBL6 := Lib.hid (show Bld w6 b (bs ++ putS s.data.toList) by
      have h : bs ++ 2 :: (D ++ [0, 0]) = bs ++ [2] ++ D ++ [0, 0] := by simp
      rw [HP.out, h]; exact hbl6)
    have HB6 := Lib.hid (HB5.out.trans hb6)
    clear hbl6 hb6 HW HBL5 HB5
    go_wp2_with fail
    go_end0
    exact ⟨rfl, HBL6.out, HB6.out⟩

set_option maxHeartbeats 8000000 in
set_option maxRecDepth 100000 in
theorem putSubs_any (A : Option Addr) (n c lo hi : Nat) (xs : List ByteArray) (w : World) (ha : StrR w lo hi A n xs) (hhi : hi ≤ w.heap.size) (hn : n ≤ 1048576) (hE : EnvIn w) :
    Calls Tryz.prog 121 #[.slice A n c] w fun e w' => e = .returned (.string (mkB (putP xs))) ∧ Below w.heap.size w w' := by
  have hl := ha.1
  subst hl
  have HC := Lib.hid (implSubsOk_any A xs.length c lo hi xs w ha hn)
  have HA := Lib.hid ha
  have HE := Lib.hid hE
  clear ha hE
  cases hc : subsB xs with
  | false =>
    rw [hc] at HC
    have HP := Lib.hid (show putP xs = [] by unfold putP; rw [hc]; rfl)
    clear hc
    go_enter Tryz.func121, Tryz.ntmps121
    go_wp2_with fail
    refine HC.out.mono ?_; rintro e1 w1 ⟨rfl, q, rfl⟩
    go_wp2_with fail
    go_ret
    exact ⟨by rw [HP.out]; rfl, below_drewN' w q⟩
  | true =>
    rw [hc] at HC
    obtain ⟨h4, hx⟩ := subsB_all hc
    have HP := Lib.hid (show putP xs = putAll (xs.take xs.length) by unfold putP; rw [hc, List.take_length]; rfl)
    have HX := Lib.hid hx
    have HLE := Lib.hid (show ∀ k, (putAll (xs.take k)).length ≤ 228 from fun k => by
      have h1 := putAll_len (xs.take k) fun x hx' => (hx x (List.mem_of_mem_take hx')).2
      have h2 : (xs.take k).length ≤ 4 := by rw [List.length_take]; omega
      omega)
    clear hc hx
    go_enter Tryz.func121, Tryz.ntmps121
    go_wp2_with fail
    refine HC.out.mono ?_; rintro e1 w1 ⟨rfl, q, rfl⟩
    have HB1 := Lib.hid (below_drewN' w q)
    have HE1 := Lib.hid (HE.out.below HB1.out)
    have HA1 := Lib.hid (HA.out.below HB1.out hhi)
    have hs1 : w.heap.size ≤ (w.drewN q).heap.size := HB1.out.size
    clear HC HE HA
    generalize w.drewN q = w1 at *
    have HBL := Lib.hid (bld_new w1)
    have HB2 := Lib.hid ((Below.refl w1.heap.size w1).alloc (Nat.le_refl _) (.cells #[.pointer none, .slice none 0 0] 82))
    go_wp2_with fail
    go_loopw [11] (fun i wr => ∃ k : Nat, k ≤ xs.length ∧ i = .int .i64 k ∧ Bld wr w1.heap.size (putAll (xs.take k)) ∧ Below w1.heap.size w1 wr) (fun i _ => xs.length - (intOf i).toNat)
    case atStart => exact ⟨0, Nat.zero_le _, rfl, HBL.out, HB2.out⟩
    case round =>
      obtain ⟨k, hk, rfl, hbl, hbr⟩ := hrel
      by_cases hlt : k < xs.length
      · obtain ⟨b, off, rfl, _, _, hcell⟩ := (HA1.out.below hbr (by omega)).at_ hlt
        have k1 : (k : Int) < (xs.length : Int) := by omega
        have hX := HX.out _ (getD_mem' (d := ByteArray.empty) hlt)
        have HN := Lib.hid (show putAll (xs.take k) ++ putS (xs.getD k ByteArray.empty).data.toList = putAll (xs.take (k + 1)) by
          rw [← putAll_snoc, List.take_succ_eq_append_getElem hlt, List.getD_eq_getElem?_getD, List.getElem?_eq_getElem hlt]; rfl)
        have hle := HLE.out k
        have HW := Lib.hid (putSub_any w1.heap.size (putAll (xs.take k)) (xs.getD k ByteArray.empty) (by omega) wr hbl (by omega) hbr.size (fun W h => HE1.out.below (hbr.trans h)))
        rw [HN.out] at HW
        have HBR := Lib.hid hbr
        clear hbl hbr hle HN
        generalize xs.getD k ByteArray.empty = X at *
        go_wp2_with fail
        refine HW.out.mono ?_; rintro e2 w2 ⟨rfl, hbl2, hb2⟩
        have HBL2 := Lib.hid hbl2
        have HB2 := Lib.hid (HBR.out.trans hb2)
        clear hbl2 hb2 HW HBR hcell
        go_wp2_with fail
        go_roundw
        case rel => exact ⟨k + 1, by omega, by go_num, HBL2.out, HB2.out⟩
        case measure => simp [intOf]; omega
      · obtain rfl : k = xs.length := by omega
        have k1 : ¬ ((xs.length : Nat) : Int) < ((xs.length : Nat) : Int) := by omega
        rw [← HP.out] at hbl
        have HW := Lib.hid (bldText w1.heap.size (putP xs) wr hbl hbr.size)
        have HBR := Lib.hid hbr
        clear hbl hbr
        go_wp2_with fail
        refine HW.out.mono ?_; rintro e2 w2 ⟨rfl, hb2⟩
        have HB2 := Lib.hid (HB1.out.trans ((HBR.out.trans hb2).mono hs1))
        clear hb2 HW HBR
        go_wp2_with fail
        go_ret
        exact ⟨rfl, HB2.out⟩

set_option maxHeartbeats 4000000 in
set_option maxRecDepth 100000 in
theorem keyOf_any (name : ByteArray) (A : Option Addr) (n c lo hi : Nat) (xs : List ByteArray) (w : World) (ha : StrR w lo hi A n xs) (hhi : hi ≤ w.heap.size) (hn : n ≤ 1048576) (hs : name.size ≤ 9223372036854775807) (hE : EnvIn w) :
    Calls Tryz.prog 66 #[.string name, .slice A n c] w fun e w' => e = .returned (.string (mkB (keyP name xs))) ∧ Below w.heap.size w w' := by
  have HC := Lib.hid (locationOk_any name A n c lo hi xs w hs ha hn)
  have HA := Lib.hid ha
  have HE := Lib.hid hE
  clear ha hE
  cases hc : (nameB name && subsB xs) with
  | false =>
    rw [hc] at HC
    have HP := Lib.hid (show keyP name xs = [] by unfold keyP; rw [hc]; rfl)
    clear hc
    go_enter Tryz.func66, Tryz.ntmps66
    go_wp2_with fail
    refine HC.out.mono ?_; rintro e1 w1 ⟨rfl, q, rfl⟩
    go_wp2_with fail
    go_ret
    exact ⟨by rw [HP.out]; rfl, below_drewN' w q⟩
  | true =>
    rw [hc] at HC
    have hc2 := Bool.and_eq_true_iff.1 hc
    have hns : name.size ≤ 8 := by
      have := hc2.1; unfold nameB at this
      simp only [Bool.and_eq_true, decide_eq_true_eq] at this
      exact this.1.2
    have HP := Lib.hid (show mkB (keyP name xs) = name ++ (⟨#[1]⟩ : ByteArray) ++ mkB (putP xs) by
      unfold keyP putP
      rw [hc, if_pos rfl, hc2.2, if_pos rfl]
      apply ByteArray.ext
      apply Array.toList_inj.1
      rw [ByteArray.data_append, Array.toList_append, ByteArray.data_append, Array.toList_append]
      show name.data.toList ++ 1 :: putAll xs = name.data.toList ++ [1] ++ putAll xs
      simp)
    have hpl : (mkB (putP xs)).size ≤ 228 := by
      show (putP xs).toArray.size ≤ _
      unfold putP; rw [hc2.2, if_pos rfl, List.size_toArray]; exact subsB_len hc2.2
    have hn1 : (name ++ (⟨#[1]⟩ : ByteArray)).size = name.size + 1 := by rw [ByteArray.size_append]; rfl
    clear hc hc2
    go_enter Tryz.func66, Tryz.ntmps66
    go_wp2_with fail
    refine HC.out.mono ?_; rintro e1 w1 ⟨rfl, q, rfl⟩
    have HB1 := Lib.hid (below_drewN' w q)
    have HW := Lib.hid (putSubs_any A n c lo hi xs (w.drewN q) (HA.out.below HB1.out hhi) (Nat.le_trans hhi HB1.out.size) hn (HE.out.below HB1.out))
    clear HC HE HA
    generalize w.drewN q = w1 at *
    generalize mkB (putP xs) = T at *
    have m1 : ¬ 9223372036854775807 < name.size + 1 := by omega
    have m2 : ¬ 9223372036854775807 < (name ++ (⟨#[1]⟩ : ByteArray)).size + T.size := by omega
    go_wp2_with fail
    refine HW.out.mono ?_; rintro e2 w2 ⟨rfl, hb2⟩
    have HB2 := Lib.hid (HB1.out.trans (hb2.mono HB1.out.size))
    clear hb2 HW HB1
    go_wp2_with fail
    go_ret
    exact ⟨by rw [HP.out]; rfl, HB2.out⟩

theorem shared_at (a b : List UInt8) (k : Nat) (x y : UInt8) (ha : a[k]? = some x) (hb : b[k]? = some y) : sharedP (a.drop k) (b.drop k) = if x = y then sharedP (a.drop (k + 1)) (b.drop (k + 1)) + 1 else 0 := by
  obtain ⟨h1, rfl⟩ := List.getElem?_eq_some_iff.1 ha
  obtain ⟨h2, rfl⟩ := List.getElem?_eq_some_iff.1 hb
  rw [List.drop_eq_getElem_cons h1, List.drop_eq_getElem_cons h2, sharedP_cons]
theorem shared_end (a b : List UInt8) (k : Nat) (h : a.length ≤ k ∨ b.length ≤ k) : sharedP (a.drop k) (b.drop k) = 0 := by
  rcases h with h | h
  · rw [List.drop_of_length_le h, sharedP_nil]
  · rw [List.drop_of_length_le (l := b) h, sharedP_nil']

set_option maxHeartbeats 4000000 in
set_option maxRecDepth 100000 in
theorem shared_any (a b : ByteArray) (ha : a.size ≤ 1000000000) (w : World) :
    Calls Tryz.prog 67 #[.string a, .string b] w fun e w' => e = .returned (.int .i64 (sharedP a.data.toList b.data.toList : Nat)) ∧ Below w.heap.size w w' := by
  obtain ⟨R, hR⟩ : ∃ R, R = sharedP a.data.toList b.data.toList := ⟨_, rfl⟩
  rw [← hR]
  have HR := Lib.hid hR
  clear hR
  go_enter Tryz.func67, Tryz.ntmps67
  go_wp2_with fail
  go_loopw [5] (fun i wr => ∃ (k q : Nat), k ≤ a.size ∧ i = .int .i64 k ∧ k + sharedP (a.data.toList.drop k) (b.data.toList.drop k) = R ∧ w.drewN q = wr) (fun i _ => a.size + 1 - (intOf i).toNat)
  case atStart => exact ⟨0, 0, Nat.zero_le _, rfl, by rw [HR.out, Nat.zero_add, List.drop_zero, List.drop_zero], rfl⟩
  case round =>
    obtain ⟨k, q, hk, rfl, hq, rfl⟩ := hrel
    have hal : a.data.toList.length = a.size := by simp
    have hbl : b.data.toList.length = b.size := by simp
    by_cases h1 : k < a.size
    · have i1 : (k : Int) < (a.size : Int) := by omega
      by_cases h2 : k < b.size
      · have i2 : (k : Int) < (b.size : Int) := by omega
        rw [shared_at _ _ k a[k] b[k] (get_list a k h1) (get_list b k h2)] at hq
        by_cases h3 : a[k] = b[k]
        · have q3 : ((a[k].toNat : Int) == (b[k].toNat : Int)) = true := by rw [h3]; simp
          rw [if_pos h3] at hq
          have HQ := Lib.hid hq
          clear hq h3 hal hbl
          go_wp2_with fail
          go_quiet (fail)
          go_wp2_with fail
          go_roundw
          case rel => exact ⟨k + 1, _, by omega, by go_num, by have := HQ.out; omega, rfl⟩
          case measure => simp [intOf]; omega
        · have q3 : ((a[k].toNat : Int) == (b[k].toNat : Int)) = false := by rw [beq_eq_false_iff_ne]; exact fun e => h3 (u8_eq (by omega))
          rw [if_neg h3, Nat.add_zero] at hq
          have HQ := Lib.hid hq
          clear hq h3 hal hbl
          go_wp2_with fail
          go_quiet (fail)
          go_wp2_with fail
          go_ret
          exact ⟨by rw [← HQ.out]; rfl, by rw [World.drewN_drewN]; exact below_drewN' w _⟩
      · have i2 : ¬ (k : Int) < (b.size : Int) := by omega
        rw [shared_end _ _ k (.inr (by omega)), Nat.add_zero] at hq
        have HQ := Lib.hid hq
        clear hq hal hbl
        go_wp2_with fail
        go_quiet (fail)
        go_wp2_with fail
        go_ret
        exact ⟨by rw [← HQ.out]; rfl, by rw [World.drewN_drewN]; exact below_drewN' w _⟩
    · have i1 : ¬ (k : Int) < (a.size : Int) := by omega
      rw [shared_end _ _ k (.inl (by omega)), Nat.add_zero] at hq
      have HQ := Lib.hid hq
      clear hq hal hbl
      go_wp2_with fail
      go_quiet (fail)
      go_wp2_with fail
      go_ret
      exact ⟨by rw [← HQ.out]; rfl, by rw [World.drewN_drewN]; exact below_drewN' w _⟩

/-! ### Numbers, the least byte first -/
def littleP (n k : Nat) : List UInt8 := (List.range k).map fun j => UInt8.ofNat (n / 256 ^ j)
theorem littleP_next (n k : Nat) : littleP n (k + 1) = littleP n k ++ [UInt8.ofNat (n / 256 ^ k)] := by
  unfold littleP; rw [List.range_succ, List.map_append]; rfl
theorem littleP_one (n : Nat) : littleP n 1 = [UInt8.ofNat n] := by
  unfold littleP; simp

set_option maxHeartbeats 4000000 in
set_option maxRecDepth 100000 in
theorem little_any (n k : Nat) (hn : n ≤ 9223372036854775807) (hk : k ≤ 8) (w : World) :
    Calls Tryz.prog 64 #[.int .i64 n, .int .i64 k] w fun e w' => e = .returned (.string (mkB (littleP n k))) ∧ Below w.heap.size w w' := by
  have hown0 : OwnR encB (w.alloc (.cells #[] 5)) w.heap.size 5 (.slice (some ⟨w.heap.size, 0, none⟩) 0 0) [] := OwnR.none_ _ _ _ (Nat.le_refl _)
  have HO0 := Lib.hid hown0
  have HB0 := Lib.hid ((Below.refl w.heap.size w).alloc (Nat.le_refl _) (.cells #[] 5))
  clear hown0
  go_enter Tryz.func64, Tryz.ntmps64
  go_wp2_with fail
  go_loopw [0, 5, 8] (fun z v i wr => ∃ (j : Nat), j ≤ k ∧ i = .int .i64 j ∧ z = .int .i64 (n / 256 ^ j : Nat) ∧ OwnR encB wr w.heap.size 5 v (littleP n j) ∧ Below w.heap.size w wr) (fun _ _ i _ => k - (intOf i).toNat)
  case atStart => exact ⟨0, Nat.zero_le _, rfl, by rw [Nat.pow_zero, Nat.div_one], HO0.out, HB0.out⟩
  case round =>
    obtain ⟨j, hj, rfl, rfl, hown, hb⟩ := hrel
    have hll : (littleP n j).length = j := by unfold littleP; simp
    have hs := hb.size
    by_cases hlt : j < k
    · have i1 : (j : Int) < (k : Int) := by omega
      have hm : n / 256 ^ j ≤ n := Nat.div_le_self _ _
      have HN := Lib.hid (show n / 256 ^ j / 256 = n / 256 ^ (j + 1) by rw [Nat.pow_succ, Nat.div_div_eq_div_mul])
      have HNX := Lib.hid (littleP_next n j)
      have HB := Lib.hid hb
      clear hb
      generalize n / 256 ^ j = m at *
      obtain ⟨y, hy, hmod⟩ : ∃ y : UInt8, y = UInt8.ofNat m ∧ (m : Int) % 256 = (y.toNat : Int) := ⟨_, rfl, by rw [UInt8.toNat_ofNat']; omega⟩
      rw [← hy] at HNX
      clear hy
      have hmb : m ≤ 9223372036854775807 := by omega
      clear hm
      generalize littleP n j = bs at *
      go_wp2_with (first
        | fail
        | (at_builtin; refine wpList_app1 (enc := encB) rfl (.tmp 10) (.tmp 13) 22 5 rfl Tryz.underlying22 rfl (by omega) (fun _ => rfl) infoByte wr w.heap.size _ bs y rfl hown rfl (by omega) hs ?_; intro v4 w4 hown4 hb4))
      go_roundw
      case rel => exact ⟨j + 1, by omega, by go_num, by rw [← HN.out]; go_num, by rw [HNX.out]; exact hown4, HB.out.trans hb4⟩
      case measure => simp [intOf]; omega
    · obtain rfl : j = k := by omega
      have i1 : ¬ (j : Int) < (j : Int) := by omega
      have hcv := convert_own hown
      have HB := Lib.hid hb
      clear hb
      go_wp2_with fail
      go_ret
      exact ⟨rfl, HB.out⟩

set_option maxHeartbeats 4000000 in
set_option maxRecDepth 100000 in
theorem short_any (s : ByteArray) (hs : s.size ≤ 1000000000) (w : World) :
    Calls Tryz.prog 68 #[.string s] w fun e w' => e = .returned (.string (mkB (shortP s.data.toList))) ∧ Below w.heap.size w w' := by
  have hl : s.data.toList.length = s.size := by simp
  have HL := Lib.hid (little_any s.size 1 (by omega) (by omega) w)
  have hm : (mkB (littleP s.size 1)).size = 1 := by rw [littleP_one]; rfl
  have HP := Lib.hid (show mkB (littleP s.size 1) ++ s = mkB (shortP s.data.toList) by
    rw [littleP_one]
    unfold shortP
    rw [hl]
    apply ByteArray.ext
    apply Array.toList_inj.1
    rw [ByteArray.data_append, Array.toList_append]
    rfl)
  generalize mkB (littleP s.size 1) = T at *
  have m1 : ¬ 9223372036854775807 < T.size + s.size := by omega
  clear hl
  go_enter Tryz.func68, Tryz.ntmps68
  go_wp2_with fail
  refine HL.out.mono ?_; rintro e1 w1 ⟨rfl, hb1⟩
  have HB1 := Lib.hid hb1
  clear hb1 HL
  go_wp2_with fail
  go_ret
  exact ⟨by rw [← HP.out]; rfl, HB1.out⟩
end Go.Proofs.YtfibjcaidnofmaaGreatDoor
