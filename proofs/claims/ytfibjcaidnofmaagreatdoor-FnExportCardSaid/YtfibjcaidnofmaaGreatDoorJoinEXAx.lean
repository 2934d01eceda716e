/- Reading a node's line: what the program's reader and the reference's read; one law. -/
import Derived.Test.YtfibjcaidnofmaaGreatDoorJoinEXAv
import Derived.Test.YtfibjcaidnofmaaGreatDoorJoinEXAr
import Derived.Test.YtfibjcaidnofmaaGreatDoorJoinEXAq
import Derived.Test.YtfibjcaidnofmaaGreatDoorJoinEXAk
import Derived.Test.YtfibjcaidnofmaaGreatDoorJoinEXAu
import Derived.Lib.AtoiAllCases
namespace Go.Proofs.YtfibjcaidnofmaaGreatDoor
open Go.RowKit

def nmCh (c : UInt8) : Bool := !(c == 40 || c == 61)
def dropH (c : UInt8) (l : List UInt8) : List UInt8 := match l with
  | [] => []
  | x :: r => if x = c then r else x :: r
theorem dropH_yes (c : UInt8) (r : List UInt8) : dropH c (c :: r) = r := by unfold dropH; exact if_pos rfl
theorem dropH_no (c : UInt8) (l : List UInt8) (h : ∀ r, l ≠ c :: r) : dropH c l = l := by
  unfold dropH
  split
  · rfl
  · rename_i x r
    exact if_neg (fun e => h r (by rw [e]))
def mkB (l : List UInt8) : ByteArray := ⟨l.toArray⟩
theorem mkB_data (s : ByteArray) : mkB s.data.toList = s := by
  cases s with | mk d => unfold mkB; simp
/-- .. as the program reads them, at most k more. -/
def openCh (l : List UInt8) : Bool := [40].isPrefixOf l || [44].isPrefixOf l
def subsI : Nat → List UInt8 → Option (List ByteArray × List UInt8)
  | 0, l => if openCh l then none else some ([], l)
  | k + 1, l => if openCh l then (subsI k (sI (l.drop 1)).2).map (fun p => (mkB (sI (l.drop 1)).1 :: p.1, p.2)) else some ([], l)
def rlI (T : List UInt8) : Option Nod :=
  if (dropH 94 T).dropWhile nmCh = [] then none
  else (subsI 4 ((dropH 94 T).dropWhile nmCh)).map fun p => ⟨mkB ((dropH 94 T).takeWhile nmCh), p.1, mkB (sI (dropH 61 (dropH 41 p.2))).1⟩
def rdlI (T : List UInt8) : Option Nod := match rlI T with
  | none => none
  | some n => if nodeLineP n = T ∧ T ≠ [] then some n else none

theorem name_nm (s : ByteArray) (h : nameB s = true) : ∀ c ∈ s.data.toList, nmCh c = true := by
  unfold nameB at h
  simp only [Bool.and_eq_true, decide_eq_true_eq] at h
  have h2 := h.2
  unfold nameTo at h2
  intro c hc
  obtain ⟨j, hj, e⟩ := List.getElem_of_mem hc
  have hjs : j < s.size := by simpa using hj
  have h3 := (List.all_eq_true.1 h2) j (List.mem_range.2 hjs)
  have hg : s.get! j = c := by
    have : s.get! j = s.data.toList[j] := by
      unfold ByteArray.get!
      simp [getElem!_pos s.data j (by simpa using hjs)]
    rw [this, e]
  rw [hg] at h3
  unfold nmCh
  cases h40 : c == 40
  · cases h61 : c == 61
    · rfl
    · have e61 : c = 61 := by simpa using h61
      subst e61
      revert h3
      unfold nameCh letterB digitB
      simp
  · have e40 : c = 40 := by simpa using h40
    subst e40
    revert h3
    unfold nameCh letterB digitB
    simp
theorem joinT_one (a : ByteArray) : joinT [a] = plainP a.data.toList := by
  unfold joinT; exact join_one _ _
theorem joinT_two (a b : ByteArray) (L : List ByteArray) : joinT (a :: b :: L) = plainP a.data.toList ++ 44 :: joinT (b :: L) := by
  unfold joinT
  rw [List.map_cons, List.map_cons, Lib.join_cons, Lib.join_cons]
  unfold Lib.joinTail
  rw [List.map_cons, List.flatten_cons, List.append_assoc]
  rfl
theorem num_no (c : UInt8) (h : c = 44 ∨ c = 41) : ∀ (c' : UInt8) (r r' : List UInt8), c :: r' = c' :: r → numCh c' = false := by
  intro c' r r' e
  injection e with e1 _
  subst e1
  rcases h with rfl | rfl <;> decide
theorem no_head (c d : UInt8) (h : c ≠ d) (r' : List UInt8) : ∀ r, c :: r' ≠ d :: r := fun r e => by injection e with e1 _; exact h e1
theorem sI_sub (a : ByteArray) (c : UInt8) (hc : c = 44 ∨ c = 41) (r : List UInt8) : sI (plainP a.data.toList ++ c :: r) = (a.data.toList, c :: r) :=
  sI_plain a.data.toList (c :: r) (no_head c 34 (by rcases hc with rfl | rfl <;> decide) r) (no_head c 95 (by rcases hc with rfl | rfl <;> decide) r) (fun c' r' e => num_no c hc c' r' r e)
theorem sI_val (a : ByteArray) : sI (plainP a.data.toList) = (a.data.toList, []) := by
  have h := sI_plain a.data.toList [] (fun r e => by cases e) (fun r e => by cases e) (fun c r e => by cases e)
  rw [List.append_nil] at h; exact h
theorem openCh_yes (c : UInt8) (hc : c = 40 ∨ c = 44) (r : List UInt8) : openCh (c :: r) = true := by
  unfold openCh; rcases hc with rfl | rfl <;> simp [List.isPrefixOf]
theorem openCh_no (c : UInt8) (hc : c ≠ 40) (hc2 : c ≠ 44) (r : List UInt8) : openCh (c :: r) = false := by
  unfold openCh
  simp [List.isPrefixOf]
  exact ⟨fun e => hc e.symm, fun e => hc2 e.symm⟩
theorem subsI_join (z : List UInt8) : ∀ (L : List ByteArray) (c : UInt8) (k : Nat), (c = 40 ∨ c = 44) → L ≠ [] → L.length ≤ k → subsI k (c :: (joinT L ++ 41 :: z)) = some (L, 41 :: z)
  | [], _, _, _, h, _ => absurd rfl h
  | _ :: _, _, 0, _, _, h => by simp at h
  | [a], c, k + 1, hc, _, _ => by
    unfold subsI
    rw [if_pos (openCh_yes c hc _)]
    show (subsI k (sI (joinT [a] ++ 41 :: z)).2).map _ = _
    rw [List.drop_succ_cons, List.drop_zero, joinT_one, sI_sub a 41 (.inr rfl) z]
    have h0 : subsI k (41 :: z) = some ([], 41 :: z) := by
      cases k <;> (unfold subsI; rw [if_neg (by rw [openCh_no 41 (by decide) (by decide)]; exact Bool.false_ne_true)])
    show (subsI k (41 :: z)).map _ = _
    rw [h0]
    show some ([mkB a.data.toList], _) = _
    rw [mkB_data]
  | a :: b :: L, c, k + 1, hc, _, hk => by
    have ih := subsI_join z (b :: L) 44 k (.inr rfl) (by simp) (by simp at hk ⊢; omega)
    unfold subsI
    rw [if_pos (openCh_yes c hc _), List.drop_succ_cons, List.drop_zero, joinT_two, List.append_assoc, List.cons_append, sI_sub a 44 (.inl rfl) _]
    show (subsI k (44 :: (joinT (b :: L) ++ 41 :: z))).map _ = _
    rw [ih]
    show some (mkB a.data.toList :: _, _) = _
    rw [mkB_data]

theorem line_parts (x : Nod) (h : nodB x = true) :
    dropH 94 (lineT x) = x.name.data.toList ++ (subsT x.subs ++ 61 :: plainP x.value.data.toList) ∧
    (dropH 94 (lineT x)).takeWhile nmCh = x.name.data.toList ∧ (dropH 94 (lineT x)).dropWhile nmCh = subsT x.subs ++ 61 :: plainP x.value.data.toList := by
  have h1 : dropH 94 (lineT x) = x.name.data.toList ++ (subsT x.subs ++ 61 :: plainP x.value.data.toList) := dropH_yes _ _
  have hn : ∀ c ∈ x.name.data.toList, nmCh c = true := by
    unfold nodB at h
    simp only [Bool.and_eq_true] at h
    exact name_nm _ h.1.1
  have h2 := takeWhile_all nmCh (subsT x.subs ++ 61 :: plainP x.value.data.toList) (fun c r e => by
    unfold subsT at e
    split at e
    · rw [List.nil_append] at e; injection e with e _; subst e; rfl
    · rw [List.cons_append] at e; injection e with e _; subst e; rfl) _ hn
  rw [h1]
  exact ⟨rfl, h2⟩
theorem rlI_line (x : Nod) (h : nodB x = true) : rlI (lineT x) = some x := by
  obtain ⟨_, h2, h3⟩ := line_parts x h
  have h4 := (nodB_facts h).2.1
  obtain ⟨nm, L, v⟩ := x
  generalize hT : lineT ⟨nm, L, v⟩ = T at *
  unfold rlI
  rw [h2, h3]
  cases L with
  | nil =>
    show (if 61 :: plainP v.data.toList = [] then none else (subsI 4 (61 :: plainP v.data.toList)).map _) = _
    rw [if_neg (by simp)]
    have h0 : subsI 4 (61 :: plainP v.data.toList) = some ([], 61 :: plainP v.data.toList) := by
      unfold subsI; rw [if_neg (by rw [openCh_no 61 (by decide) (by decide)]; exact Bool.false_ne_true)]
    rw [h0]
    show some (Nod.mk (mkB nm.data.toList) [] (mkB (sI (dropH 61 (dropH 41 (61 :: plainP v.data.toList)))).1)) = _
    rw [dropH_no 41 _ (no_head 61 41 (by decide) _), dropH_yes, sI_val, mkB_data, mkB_data]
  | cons a L =>
    have hsub : subsT (a :: L) ++ 61 :: plainP v.data.toList = 40 :: (joinT (a :: L) ++ 41 :: (61 :: plainP v.data.toList)) := by
      unfold subsT; rw [if_neg (by simp)]; simp
    show (if subsT (a :: L) ++ 61 :: plainP v.data.toList = [] then none else (subsI 4 (subsT (a :: L) ++ 61 :: plainP v.data.toList)).map _) = _
    rw [hsub, if_neg (by simp), subsI_join _ (a :: L) 40 4 (.inl rfl) (by simp) h4]
    show some (Nod.mk (mkB nm.data.toList) (a :: L) (mkB (sI (dropH 61 (dropH 41 (41 :: (61 :: plainP v.data.toList))))).1)) = _
    rw [dropH_yes, dropH_yes, sI_val, mkB_data, mkB_data]
/-- What is read has a line. -/
theorem rdl_ok (T : List UInt8) (x : Nod) (h : rdlI T = some x) : nodB x = true := by
  unfold rdlI at h
  split at h
  · cases h
  · split at h
    · rename_i n _ hn
      injection h with h
      subst h
      cases hb : nodB n
      · exfalso
        unfold nodeLineP at hn
        rw [hb] at hn
        exact hn.2 hn.1.symm
      · rfl
    · cases h
end Go.Proofs.YtfibjcaidnofmaaGreatDoor

/- Reading a tree's text: its lines, the number that its first line announces, what comes of it. No program in sight. -/
namespace Go.Proofs.YtfibjcaidnofmaaGreatDoor

/-! ### The lines -/
def stepL (s : List (List UInt8) × List UInt8) (c : UInt8) : List (List UInt8) × List UInt8 := if c = 10 then (s.1 ++ [s.2], []) else (s.1, s.2 ++ [c])
def linesP (l : List UInt8) : List (List UInt8) × List UInt8 := l.foldl stepL ([], [])
theorem stepL_end (s : List (List UInt8) × List UInt8) : stepL s 10 = (s.1 ++ [s.2], []) := if_pos rfl
theorem stepL_in (s : List (List UInt8) × List UInt8) {c : UInt8} (h : c ≠ 10) : stepL s c = (s.1, s.2 ++ [c]) := if_neg h
theorem fold_out : ∀ (l : List UInt8) (o : List (List UInt8)) (p : List UInt8), l.foldl stepL (o, p) = (o ++ (l.foldl stepL ([], p)).1, (l.foldl stepL ([], p)).2)
  | [], o, p => by simp
  | c :: l, o, p => by
    rw [List.foldl_cons, List.foldl_cons]
    by_cases h : c = 10
    · subst h
      rw [stepL_end, stepL_end, fold_out l (o ++ [p]) [], fold_out l ([] ++ [p]) []]
      simp
    · rw [stepL_in _ h, stepL_in _ h, fold_out l o (p ++ [c])]
theorem fold_plain : ∀ (a : List UInt8) (o : List (List UInt8)) (p : List UInt8), (∀ c ∈ a, c ≠ 10) → a.foldl stepL (o, p) = (o, p ++ a)
  | [], o, p, _ => by simp
  | c :: a, o, p, h => by
    rw [List.foldl_cons, stepL_in _ (h c (List.mem_cons_self ..)), fold_plain a _ _ (fun d hd => h d (List.mem_cons_of_mem _ hd)), List.append_assoc]; rfl
theorem linesP_none (a : List UInt8) (h : ∀ c ∈ a, c ≠ 10) : linesP a = ([], a) := by unfold linesP; rw [fold_plain a _ _ h]; rfl
theorem linesP_line (a r : List UInt8) (h : ∀ c ∈ a, c ≠ 10) : linesP (a ++ 10 :: r) = (a :: (linesP r).1, (linesP r).2) := by
  unfold linesP
  rw [List.foldl_append, fold_plain a _ _ h, List.foldl_cons, stepL_end, fold_out]
  simp
theorem linesP_snoc (l : List UInt8) (c : UInt8) : linesP (l ++ [c]) = stepL (linesP l) c := by unfold linesP; rw [List.foldl_append]; rfl
theorem linesP_count (l : List UInt8) : (linesP l).1.length = l.count 10 := by
  have h : ∀ (l : List UInt8) (o : List (List UInt8)) (p : List UInt8), (l.foldl stepL (o, p)).1.length = o.length + l.count 10 := by
    intro l
    induction l with
    | nil => intro o p; simp
    | cons c l ih =>
      intro o p
      rw [List.foldl_cons]
      by_cases e : c = 10
      · subst e
        rw [stepL_end, ih]; simp; omega
      · rw [stepL_in _ e, ih, List.count_cons_of_ne e]
  have := h l [] []
  unfold linesP
  simpa using this
theorem snoc_cases {α : Type} (l : List α) (h : l ≠ []) : ∃ r c, l = r ++ [c] := ⟨l.dropLast, l.getLast h, (List.dropLast_concat_getLast h).symm⟩
theorem linesP_whole (l : List UInt8) (h : l ≠ []) : [10].isSuffixOf l = decide ((linesP l).2 = []) := by
  obtain ⟨r, c, rfl⟩ := snoc_cases l h
  rw [linesP_snoc]
  by_cases e : c = 10
  · subst e
    rw [stepL_end, decide_eq_true rfl]
    exact List.isSuffixOf_iff_suffix.2 ⟨r, rfl⟩
  · rw [stepL_in _ e, decide_eq_false (by simp)]
    cases hx : [10].isSuffixOf (r ++ [c]) with
    | false => rfl
    | true =>
      obtain ⟨t, ht⟩ := List.isSuffixOf_iff_suffix.1 hx
      have := (List.append_inj' ht rfl).2
      injection this with this
      exact absurd this.symm e
theorem linesP_len (l : List UInt8) : (∀ a ∈ (linesP l).1, a.length ≤ l.length) ∧ (linesP l).2.length ≤ l.length := by
  have h : ∀ (l : List UInt8) (o : List (List UInt8)) (p : List UInt8) (k : Nat), (∀ a ∈ o, a.length ≤ k) → p.length ≤ k → (∀ a ∈ (l.foldl stepL (o, p)).1, a.length ≤ k + l.length) ∧ (l.foldl stepL (o, p)).2.length ≤ k + l.length := by
    intro l
    induction l with
    | nil => intro o p k h1 h2; exact ⟨fun a ha => by have := h1 a ha; simpa using this, by simpa using h2⟩
    | cons c l ih =>
      intro o p k h1 h2
      rw [List.foldl_cons]
      by_cases e : c = 10
      · subst e
        rw [stepL_end]
        obtain ⟨i1, i2⟩ := ih (o ++ [p]) [] (k + 1) (fun a ha => by
          rcases List.mem_append.1 ha with ha | ha
          · have := h1 a ha; omega
          · rw [List.mem_singleton.1 ha]; omega) (by simp)
        exact ⟨fun a ha => by have := i1 a ha; rw [List.length_cons]; omega, by rw [List.length_cons]; have i3 := i2; dsimp only at i3 ⊢; omega⟩
      · rw [stepL_in _ e]
        obtain ⟨i1, i2⟩ := ih o (p ++ [c]) (k + 1) (fun a ha => by have := h1 a ha; omega) (by rw [List.length_append]; simp; omega)
        exact ⟨fun a ha => by have := i1 a ha; rw [List.length_cons]; omega, by rw [List.length_cons]; have i3 := i2; dsimp only at i3 ⊢; omega⟩
  have := h l [] [] 0 (fun a ha => by cases ha) (Nat.le_refl _)
  simpa [linesP] using this

/-! ### The number that is announced -/
def nodesW : List UInt8 := [110, 111, 100, 101, 115, 32]
def manyD (d : List UInt8) : Int := if 1 ≤ d.length ∧ d.length ≤ 9 ∧ Lib.decDigits (valFrom 0 d) = d then (valFrom 0 d : Int) else -1
def manyP (l : List UInt8) : Int := if nodesW.isPrefixOf l then manyD (l.drop 6) else -1
theorem dec_ne' (u : Nat) : Lib.decDigits u ≠ [] := by
  intro h
  have := decDigits_val u
  rw [h] at this
  have h1 : u = 0 := this.symm
  subst h1
  rw [decDigits_small (by omega)] at h
  cases h
theorem dec_head' (u : Nat) : ∃ c r, Lib.decDigits u = c :: r ∧ isDig c = true := by
  cases h : Lib.decDigits u with
  | nil => exact absurd h (dec_ne' u)
  | cons c r => exact ⟨c, r, rfl, decDigits_dig u c (by rw [h]; exact List.mem_cons_self ..)⟩
theorem parse_digits' : ∀ (l : List UInt8) (acc : Nat), (∀ c ∈ l, isDig c = true) → valFrom acc l < 1844674407370955162 → Lib.parseUint10 acc l = .ok (valFrom acc l)
  | [], _, _, _ => rfl
  | c :: l, acc, hd, hv => by
    have hc := hd c (List.mem_cons_self ..)
    have hc2 := hc
    unfold isDig at hc2
    rw [decide_eq_true_eq] at hc2
    rw [valFrom_cons] at hv ⊢
    have hge := valFrom_ge l (10 * acc + dg c)
    have hdg : dg c = c.toNat - 48 := by unfold dg; omega
    rw [Lib.parseUint10, if_pos hc2, if_neg (by omega), if_neg (by omega), show acc * 10 + (c.toNat - 48) = 10 * acc + dg c by omega]
    exact parse_digits' l _ (fun c' h => hd c' (List.mem_cons_of_mem _ h)) hv
theorem small_dec' {u k : Nat} (h : (Lib.decDigits u).length ≤ k) : u < 10 ^ k := by
  rcases Nat.lt_or_ge u (10 ^ k) with h' | h'
  · exact h'
  · have := decDigits_ge k u h'; omega
theorem atoi_dec9 (u : Nat) (h : (Lib.decDigits u).length ≤ 9) : Lib.atoiAll (Lib.decDigits u) = .ok (u : Int) := by
  have hs := small_dec' h
  obtain ⟨c, r, e, hd⟩ := dec_head' u
  have hd2 := hd
  unfold isDig at hd2
  rw [decide_eq_true_eq] at hd2
  have hp : Lib.parseMag (Lib.decDigits u) = .ok u := by
    unfold Lib.parseMag
    rw [if_neg (dec_ne' _), parse_digits' _ _ (decDigits_dig _) (by rw [decDigits_val]; omega), decDigits_val]
  rw [e] at hp ⊢
  rw [Lib.atoiAll_plain c r (by omega) (by omega), hp]
  unfold Lib.signless
  simp only
  rw [if_neg (by omega)]
theorem itoa_nat (u : Nat) : Lib.itoa (u : Int) = Lib.decDigits u := by
  unfold Lib.itoa
  rw [if_neg (by omega)]
  congr 1
/-- What the program's 'announced' computes behind the word. -/
theorem manyD_ok {d : List UInt8} {n : Int} (ha : Lib.atoiAll d = .ok n) : manyD d = if d.length ≤ 9 ∧ Lib.itoa n = d ∧ 0 ≤ n then n else -1 := by
  unfold manyD
  by_cases h : 1 ≤ d.length ∧ d.length ≤ 9 ∧ Lib.decDigits (valFrom 0 d) = d
  · rw [if_pos h]
    obtain ⟨h1, h2, h3⟩ := h
    have h4 := atoi_dec9 (valFrom 0 d) (by rw [h3]; exact h2)
    rw [h3, ha] at h4
    injection h4 with h4
    subst h4
    rw [if_pos ⟨h2, by rw [itoa_nat]; exact h3, by omega⟩]
  · rw [if_neg h]
    split
    · rename_i h2
      obtain ⟨h3, h4, h5⟩ := h2
      obtain ⟨u, rfl⟩ := Int.eq_ofNat_of_zero_le h5
      rw [itoa_nat] at h4
      refine absurd ⟨?_, h3, ?_⟩ h
      · rw [← h4]; exact List.length_pos_iff.2 (dec_ne' _)
      · rw [← h4, decDigits_val]
    · rfl
theorem manyD_bad {d : List UInt8} (ha : ∀ n, Lib.atoiAll d ≠ .ok n) : manyD d = -1 := by
  unfold manyD
  split
  · rename_i h
    obtain ⟨h1, h2, h3⟩ := h
    have h4 := atoi_dec9 (valFrom 0 d) (by rw [h3]; exact h2)
    rw [h3] at h4
    exact absurd h4 (ha _)
  · rfl
/-! ### The whole text -/
def keyN (x : Nod) : ByteArray × List ByteArray := (x.name, x.subs)
def readAll : List (List UInt8) → Option (List Nod)
  | [] => some []
  | a :: L => (rdlI a).bind fun n => (readAll L).map (n :: ·)
abbrev insN (L : List Nod) : List Nod × Bool := insAll befP keyN L
def importP (l : List UInt8) : Int × List Nod :=
  if 60000 < l.length then (4, []) else
  match (linesP l).1 with
  | [] => (14, [])
  | a :: L =>
    if 120 < manyP a then (4, []) else
    if (linesP l).2 ≠ [] ∨ manyP a < 0 ∨ manyP a ≠ L.length then (14, []) else
    match readAll L with
    | none => (14, [])
    | some ns => if (insN ns).2 then (5, []) else (0, (insN ns).1)
theorem readAll_len : ∀ {L : List (List UInt8)} {ns : List Nod}, readAll L = some ns → ns.length = L.length
  | [], ns, h => by injection h with h; subst h; rfl
  | a :: L, ns, h => by
    unfold readAll at h
    cases ha : rdlI a with
    | none => rw [ha] at h; cases h
    | some n =>
      rw [ha] at h
      cases hL : readAll L with
      | none => rw [Option.bind_some, hL] at h; cases h
      | some ms =>
        rw [Option.bind_some, hL] at h
        injection h with h
        subst h
        rw [List.length_cons, List.length_cons, readAll_len hL]
theorem readAll_ok : ∀ {L : List (List UInt8)} {ns : List Nod}, readAll L = some ns → ∀ x ∈ ns, nodB x = true
  | [], ns, h => by injection h with h; subst h; intro x hx; cases hx
  | a :: L, ns, h => by
    unfold readAll at h
    cases ha : rdlI a with
    | none => rw [ha] at h; cases h
    | some n =>
      rw [ha] at h
      cases hL : readAll L with
      | none => rw [Option.bind_some, hL] at h; cases h
      | some ms =>
        rw [Option.bind_some, hL] at h
        injection h with h
        subst h
        intro x hx
        rcases List.mem_cons.1 hx with rfl | hx
        · exact rdl_ok _ _ ha
        · exact readAll_ok hL x hx
theorem readAll_snoc (L : List (List UInt8)) (a : List UInt8) : readAll (L ++ [a]) = (readAll L).bind fun ns => (rdlI a).map fun n => ns ++ [n] := by
  induction L with
  | nil =>
    show (rdlI a).bind _ = _
    cases rdlI a <;> rfl
  | cons b L ih =>
    show (rdlI b).bind (fun n => (readAll (L ++ [a])).map (n :: ·)) = ((rdlI b).bind fun n => (readAll L).map (n :: ·)).bind _
    rw [ih]
    cases rdlI b with
    | none => rfl
    | some n =>
      cases readAll L with
      | none => rfl
      | some ns => cases rdlI a <;> rfl
theorem readAll_none {L : List (List UInt8)} {k : Nat} (h : readAll (L.take k) = none) : readAll L = none := by
  have : ∀ (A B : List (List UInt8)), readAll A = none → readAll (A ++ B) = none := by
    intro A
    induction A with
    | nil => intro B h; cases h
    | cons a A ih =>
      intro B h
      show (rdlI a).bind _ = none
      have h' : (rdlI a).bind (fun n => (readAll A).map (n :: ·)) = none := h
      cases ha : rdlI a with
      | none => rfl
      | some n =>
        rw [ha, Option.bind_some] at h'
        have h2 : readAll A = none := by
          cases hA : readAll A with
          | none => rfl
          | some ms => rw [hA] at h'; cases h'
        show (readAll (A ++ B)).map _ = none
        rw [ih B h2]; rfl
  have h2 := this _ (L.drop k) h
  rwa [List.take_append_drop] at h2

/-- A tree that rises is valid, and the other way round. -/
theorem treTo_iff (ns : List Nod) (k : Nat) : treTo ns k = true ↔ ∀ j, j < k → treAt ns j = true := by
  unfold treTo
  rw [List.all_eq_true]
  exact ⟨fun h j hj => h j (List.mem_range.2 hj), fun h j hj => h j (List.mem_range.1 hj)⟩
theorem rises_getD {ns : List Nod} (h : Rises befP keyN ns) {i j : Nat} (hij : i < j) (hj : j < ns.length) : befP (keyN (ns.getD i nodD)) (keyN (ns.getD j nodD)) = true := by
  have := (List.pairwise_iff_getElem.1 h) i j (by omega) hj hij
  rw [List.getD_eq_getElem?_getD, List.getD_eq_getElem?_getD, List.getElem?_eq_getElem hj, List.getElem?_eq_getElem (show i < ns.length by omega)]
  exact this
theorem rises_step {ns : List Nod} (h : ∀ j, 0 < j → j < ns.length → befP (keyN (ns.getD (j - 1) nodD)) (keyN (ns.getD j nodD)) = true) : Rises befP keyN ns := by
  refine List.pairwise_iff_getElem.2 fun i j hi hj hij => ?_
  have key : ∀ d i, i + d + 1 < ns.length → befP (keyN (ns.getD i nodD)) (keyN (ns.getD (i + d + 1) nodD)) = true := by
    intro d
    induction d with
    | zero => intro i hi; exact h (i + 1) (by omega) hi
    | succ d ih => intro i hi; exact sto_befP.trans _ _ _ (ih i (by omega)) (h (i + (d + 1) + 1) (by omega) hi)
  have := key (j - i - 1) i (by omega)
  rw [show i + (j - i - 1) + 1 = j by omega, List.getD_eq_getElem?_getD, List.getD_eq_getElem?_getD, List.getElem?_eq_getElem hj, List.getElem?_eq_getElem hi] at this
  exact this
theorem treB_rises {ns : List Nod} (hn : ∀ x ∈ ns, nodB x = true) (hl : ns.length ≤ 120) : treB ns = true ↔ Rises befP keyN ns := by
  have hmem : ∀ j, j < ns.length → ns.getD j nodD ∈ ns := fun j hj => by rw [List.getD_eq_getElem?_getD, List.getElem?_eq_getElem hj]; exact List.getElem_mem hj
  unfold treB
  rw [decide_eq_true hl, Bool.true_and, treTo_iff]
  constructor
  · intro h
    refine rises_step fun j h0 hj => ?_
    have := h j hj
    rw [treAt_next _ _ (by omega), Bool.and_eq_true] at this
    exact this.2
  · intro h j hj
    by_cases h0 : j = 0
    · rw [treAt_first _ _ h0]; exact hn _ (hmem j hj)
    · rw [treAt_next _ _ h0, hn _ (hmem j hj), Bool.true_and]
      exact rises_getD h (by omega) hj
/-- THE LAW of the program's last step: what sorting gave is a tree if and only if no place came twice. -/
theorem import_sort {ns P : List Nod} (hp : P.Perm ns) (hs : P.Pairwise fun a b => befP (keyN b) (keyN a) = false) (hn : ∀ x ∈ ns, nodB x = true) (hl : ns.length ≤ 120) :
    treB P = !(insN ns).2 ∧ ((insN ns).2 = false → P = (insN ns).1) := by
  obtain ⟨h1, h2⟩ := sort_ins (f := keyN) sto_befP hp hs
  have hn' : ∀ x ∈ P, nodB x = true := fun x hx => hn x (hp.subset hx)
  have ht := treB_rises hn' (by rw [hp.length_eq]; exact hl)
  cases hb : (insN ns).2 with
  | false =>
    obtain ⟨h3, h4⟩ := h1 hb
    exact ⟨by rw [ht.2 h3]; rfl, fun _ => h4⟩
  | true =>
    refine ⟨?_, fun h => by cases h⟩
    cases hT : treB P with
    | false => rfl
    | true => exact absurd (ht.1 hT) (h2 hb)
end Go.Proofs.YtfibjcaidnofmaaGreatDoor
