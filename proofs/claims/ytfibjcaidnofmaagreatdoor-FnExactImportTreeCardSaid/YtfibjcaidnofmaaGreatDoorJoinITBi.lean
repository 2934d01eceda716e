/- Reading a tree's text: its lines, the number that its first line announces, what comes of it. No program in sight. -/
import Derived.Test.YtfibjcaidnofmaaGreatDoorJoinITBh
import Derived.Test.YtfibjcaidnofmaaGreatDoorJoinITAx
import Derived.Test.YtfibjcaidnofmaaGreatDoorJoinITAw
import Derived.Test.YtfibjcaidnofmaaGreatDoorJoinITAm
import Derived.Test.YtfibjcaidnofmaaGreatDoorJoinITBa
import Derived.Lib.AtoiAllCases
import Derived.Test.YtfibjcaidnofmaaGreatDoorJoinITAe
import Derived.Test.YtfibjcaidnofmaaGreatDoorShelfI
import Derived.Test.YtfibjcaidnofmaaGreatDoorJoinITAk
import Derived.WalkKit
import Derived.OwnWalkIn
import Derived.TacticsInMore
import Derived.LoopNIn
import Derived.LoopIn
namespace Go.Proofs.YtfibjcaidnofmaaGreatDoor

/-! ### The lines -/
def stepL (s : List (List UInt8) × List UInt8) (c : UInt8) : List (List UInt8) × List UInt8 := if c = 10 then (s.1 ++ [s.2], []) else (s.1, s.2 ++ [c])
def linesP (l : List UInt8) : List (List UInt8) × List UInt8 := l.foldl stepL ([], [])
theorem stepL_end (s : List (List UInt8) × List UInt8) : stepL s 10 = (s.1 ++ [s.2], []) := if_pos rfl
theorem stepL_in (s : List (List UInt8) × List UInt8) {c : UInt8} (h : c ≠ 10) : stepL s c = (s.1, s.2 ++ [c]) := if_neg h
theorem fold_out : ∀ (l : List UInt8) (o : List (List UInt8)) (p : List UInt8), l.foldl stepL (o, p) = (o ++ (l.foldl stepL ([], p)).1, (l.foldl stepL ([], p)).2)
  | [], o, p => by simp
  | c :: l, o, p => by
    rw [List.foldl_cons, List.foldl_cons]
    by_cases h : c = 10
    · subst h
      rw [stepL_end, stepL_end, fold_out l (o ++ [p]) [], fold_out l ([] ++ [p]) []]
      simp
    · rw [stepL_in _ h, stepL_in _ h, fold_out l o (p ++ [c])]
theorem fold_plain : ∀ (a : List UInt8) (o : List (List UInt8)) (p : List UInt8), (∀ c ∈ a, c ≠ 10) → a.foldl stepL (o, p) = (o, p ++ a)
  | [], o, p, _ => by simp
  | c :: a, o, p, h => by
    rw [List.foldl_cons, stepL_in _ (h c (List.mem_cons_self ..)), fold_plain a _ _ (fun d hd => h d (List.mem_cons_of_mem _ hd)), List.append_assoc]; rfl
theorem linesP_none (a : List UInt8) (h : ∀ c ∈ a, c ≠ 10) : linesP a = ([], a) := by unfold linesP; rw [fold_plain a _ _ h]; rfl
theorem linesP_line (a r : List UInt8) (h : ∀ c ∈ a, c ≠ 10) : linesP (a ++ 10 :: r) = (a :: (linesP r).1, (linesP r).2) := by
  unfold linesP
  rw [List.foldl_append, fold_plain a _ _ h, List.foldl_cons, stepL_end, fold_out]
  simp
theorem linesP_snoc (l : List UInt8) (c : UInt8) : linesP (l ++ [c]) = stepL (linesP l) c := by unfold linesP; rw [List.foldl_append]; rfl
theorem linesP_count (l : List UInt8) : (linesP l).1.length = l.count 10 := by
  have h : ∀ (l : List UInt8) (o : List (List UInt8)) (p : List UInt8), (l.foldl stepL (o, p)).1.length = o.length + l.count 10 := by
    intro l
    induction l with
    | nil => intro o p; simp
    | cons c l ih =>
      intro o p
      rw [List.foldl_cons]
      by_cases e : c = 10
      · subst e
        rw [stepL_end, ih]; simp; omega
      · rw [stepL_in _ e, ih, List.count_cons_of_ne e]
  have := h l [] []
  unfold linesP
  simpa using this
theorem snoc_cases {α : Type} (l : List α) (h : l ≠ []) : ∃ r c, l = r ++ [c] := ⟨l.dropLast, l.getLast h, (List.dropLast_concat_getLast h).symm⟩
theorem linesP_whole (l : List UInt8) (h : l ≠ []) : [10].isSuffixOf l = decide ((linesP l).2 = []) := by
  obtain ⟨r, c, rfl⟩ := snoc_cases l h
  rw [linesP_snoc]
  by_cases e : c = 10
  · subst e
    rw [stepL_end, decide_eq_true rfl]
    exact List.isSuffixOf_iff_suffix.2 ⟨r, rfl⟩
  · rw [stepL_in _ e, decide_eq_false (by simp)]
    cases hx : [10].isSuffixOf (r ++ [c]) with
    | false => rfl
    | true =>
      obtain ⟨t, ht⟩ := List.isSuffixOf_iff_suffix.1 hx
      have := (List.append_inj' ht rfl).2
      injection this with this
      exact absurd this.symm e
theorem linesP_len (l : List UInt8) : (∀ a ∈ (linesP l).1, a.length ≤ l.length) ∧ (linesP l).2.length ≤ l.length := by
  have h : ∀ (l : List UInt8) (o : List (List UInt8)) (p : List UInt8) (k : Nat), (∀ a ∈ o, a.length ≤ k) → p.length ≤ k → (∀ a ∈ (l.foldl stepL (o, p)).1, a.length ≤ k + l.length) ∧ (l.foldl stepL (o, p)).2.length ≤ k + l.length := by
    intro l
    induction l with
    | nil => intro o p k h1 h2; exact ⟨fun a ha => by have := h1 a ha; simpa using this, by simpa using h2⟩
    | cons c l ih =>
      intro o p k h1 h2
      rw [List.foldl_cons]
      by_cases e : c = 10
      · subst e
        rw [stepL_end]
        obtain ⟨i1, i2⟩ := ih (o ++ [p]) [] (k + 1) (fun a ha => by
          rcases List.mem_append.1 ha with ha | ha
          · have := h1 a ha; omega
          · rw [List.mem_singleton.1 ha]; omega) (by simp)
        exact ⟨fun a ha => by have := i1 a ha; rw [List.length_cons]; omega, by rw [List.length_cons]; have i3 := i2; dsimp only at i3 ⊢; omega⟩
      · rw [stepL_in _ e]
        obtain ⟨i1, i2⟩ := ih o (p ++ [c]) (k + 1) (fun a ha => by have := h1 a ha; omega) (by rw [List.length_append]; simp; omega)
        exact ⟨fun a ha => by have := i1 a ha; rw [List.length_cons]; omega, by rw [List.length_cons]; have i3 := i2; dsimp only at i3 ⊢; omega⟩
  have := h l [] [] 0 (fun a ha => by cases ha) (Nat.le_refl _)
  simpa [linesP] using this

/-! ### The number that is announced -/
def nodesW : List UInt8 := [110, 111, 100, 101, 115, 32]
def manyD (d : List UInt8) : Int := if 1 ≤ d.length ∧ d.length ≤ 9 ∧ Lib.decDigits (valFrom 0 d) = d then (valFrom 0 d : Int) else -1
def manyP (l : List UInt8) : Int := if nodesW.isPrefixOf l then manyD (l.drop 6) else -1
theorem dec_ne' (u : Nat) : Lib.decDigits u ≠ [] := by
  intro h
  have := decDigits_val u
  rw [h] at this
  have h1 : u = 0 := this.symm
  subst h1
  rw [decDigits_small (by omega)] at h
  cases h
theorem dec_head' (u : Nat) : ∃ c r, Lib.decDigits u = c :: r ∧ isDig c = true := by
  cases h : Lib.decDigits u with
  | nil => exact absurd h (dec_ne' u)
  | cons c r => exact ⟨c, r, rfl, decDigits_dig u c (by rw [h]; exact List.mem_cons_self ..)⟩
theorem parse_digits' : ∀ (l : List UInt8) (acc : Nat), (∀ c ∈ l, isDig c = true) → valFrom acc l < 1844674407370955162 → Lib.parseUint10 acc l = .ok (valFrom acc l)
  | [], _, _, _ => rfl
  | c :: l, acc, hd, hv => by
    have hc := hd c (List.mem_cons_self ..)
    have hc2 := hc
    unfold isDig at hc2
    rw [decide_eq_true_eq] at hc2
    rw [valFrom_cons] at hv ⊢
    have hge := valFrom_ge l (10 * acc + dg c)
    have hdg : dg c = c.toNat - 48 := by unfold dg; omega
    rw [Lib.parseUint10, if_pos hc2, if_neg (by omega), if_neg (by omega), show acc * 10 + (c.toNat - 48) = 10 * acc + dg c by omega]
    exact parse_digits' l _ (fun c' h => hd c' (List.mem_cons_of_mem _ h)) hv
theorem small_dec' {u k : Nat} (h : (Lib.decDigits u).length ≤ k) : u < 10 ^ k := by
  rcases Nat.lt_or_ge u (10 ^ k) with h' | h'
  · exact h'
  · have := decDigits_ge k u h'; omega
theorem atoi_dec9 (u : Nat) (h : (Lib.decDigits u).length ≤ 9) : Lib.atoiAll (Lib.decDigits u) = .ok (u : Int) := by
  have hs := small_dec' h
  obtain ⟨c, r, e, hd⟩ := dec_head' u
  have hd2 := hd
  unfold isDig at hd2
  rw [decide_eq_true_eq] at hd2
  have hp : Lib.parseMag (Lib.decDigits u) = .ok u := by
    unfold Lib.parseMag
    rw [if_neg (dec_ne' _), parse_digits' _ _ (decDigits_dig _) (by rw [decDigits_val]; omega), decDigits_val]
  rw [e] at hp ⊢
  rw [Lib.atoiAll_plain c r (by omega) (by omega), hp]
  unfold Lib.signless
  simp only
  rw [if_neg (by omega)]
theorem itoa_nat (u : Nat) : Lib.itoa (u : Int) = Lib.decDigits u := by
  unfold Lib.itoa
  rw [if_neg (by omega)]
  congr 1
/-- What the program's 'announced' computes behind the word. -/
theorem manyD_ok {d : List UInt8} {n : Int} (ha : Lib.atoiAll d = .ok n) : manyD d = if d.length ≤ 9 ∧ Lib.itoa n = d ∧ 0 ≤ n then n else -1 := by
  unfold manyD
  by_cases h : 1 ≤ d.length ∧ d.length ≤ 9 ∧ Lib.decDigits (valFrom 0 d) = d
  · rw [if_pos h]
    obtain ⟨h1, h2, h3⟩ := h
    have h4 := atoi_dec9 (valFrom 0 d) (by rw [h3]; exact h2)
    rw [h3, ha] at h4
    injection h4 with h4
    subst h4
    rw [if_pos ⟨h2, by rw [itoa_nat]; exact h3, by omega⟩]
  · rw [if_neg h]
    split
    · rename_i h2
      obtain ⟨h3, h4, h5⟩ := h2
      obtain ⟨u, rfl⟩ := Int.eq_ofNat_of_zero_le h5
      rw [itoa_nat] at h4
      refine absurd ⟨?_, h3, ?_⟩ h
      · rw [← h4]; exact List.length_pos_iff.2 (dec_ne' _)
      · rw [← h4, decDigits_val]
    · rfl
theorem manyD_bad {d : List UInt8} (ha : ∀ n, Lib.atoiAll d ≠ .ok n) : manyD d = -1 := by
  unfold manyD
  split
  · rename_i h
    obtain ⟨h1, h2, h3⟩ := h
    have h4 := atoi_dec9 (valFrom 0 d) (by rw [h3]; exact h2)
    rw [h3] at h4
    exact absurd h4 (ha _)
  · rfl
theorem manyD_le (d : List UInt8) : -1 ≤ manyD d ∧ manyD d ≤ 999999999 := by
  unfold manyD
  split
  · rename_i h
    obtain ⟨h1, h2, h3⟩ := h
    have := small_dec' (u := valFrom 0 d) (k := 9) (by rw [h3]; exact h2)
    constructor <;> omega
  · constructor <;> omega
theorem manyP_le (l : List UInt8) : -1 ≤ manyP l ∧ manyP l ≤ 999999999 := by
  unfold manyP
  split
  · exact manyD_le _
  · constructor <;> omega
theorem manyD_dig {d : List UInt8} (h : ∃ c ∈ d, isDig c = false) : manyD d = -1 := by
  unfold manyD
  split
  · rename_i h2
    obtain ⟨c, hc, hf⟩ := h
    rw [← h2.2.2] at hc
    rw [decDigits_dig _ c hc] at hf; cases hf
  · rfl
theorem manyD_len {d : List UInt8} (h : d.length < 1 ∨ 9 < d.length) : manyD d = -1 := by
  unfold manyD
  rw [if_neg (by omega)]

/-! ### The whole text -/
def keyN (x : Nod) : ByteArray × List ByteArray := (x.name, x.subs)
def readAll : List (List UInt8) → Option (List Nod)
  | [] => some []
  | a :: L => (rdlI a).bind fun n => (readAll L).map (n :: ·)
abbrev insN (L : List Nod) : List Nod × Bool := insAll befP keyN L
def importP (l : List UInt8) : Int × List Nod :=
  if 60000 < l.length then (4, []) else
  match (linesP l).1 with
  | [] => (14, [])
  | a :: L =>
    if 120 < manyP a then (4, []) else
    if (linesP l).2 ≠ [] ∨ manyP a < 0 ∨ manyP a ≠ L.length then (14, []) else
    match readAll L with
    | none => (14, [])
    | some ns => if (insN ns).2 then (5, []) else (0, (insN ns).1)
theorem readAll_len : ∀ {L : List (List UInt8)} {ns : List Nod}, readAll L = some ns → ns.length = L.length
  | [], ns, h => by injection h with h; subst h; rfl
  | a :: L, ns, h => by
    unfold readAll at h
    cases ha : rdlI a with
    | none => rw [ha] at h; cases h
    | some n =>
      rw [ha] at h
      cases hL : readAll L with
      | none => rw [Option.bind_some, hL] at h; cases h
      | some ms =>
        rw [Option.bind_some, hL] at h
        injection h with h
        subst h
        rw [List.length_cons, List.length_cons, readAll_len hL]
theorem readAll_ok : ∀ {L : List (List UInt8)} {ns : List Nod}, readAll L = some ns → ∀ x ∈ ns, nodB x = true
  | [], ns, h => by injection h with h; subst h; intro x hx; cases hx
  | a :: L, ns, h => by
    unfold readAll at h
    cases ha : rdlI a with
    | none => rw [ha] at h; cases h
    | some n =>
      rw [ha] at h
      cases hL : readAll L with
      | none => rw [Option.bind_some, hL] at h; cases h
      | some ms =>
        rw [Option.bind_some, hL] at h
        injection h with h
        subst h
        intro x hx
        rcases List.mem_cons.1 hx with rfl | hx
        · exact rdl_ok _ _ ha
        · exact readAll_ok hL x hx
theorem readAll_snoc (L : List (List UInt8)) (a : List UInt8) : readAll (L ++ [a]) = (readAll L).bind fun ns => (rdlI a).map fun n => ns ++ [n] := by
  induction L with
  | nil =>
    show (rdlI a).bind _ = _
    cases rdlI a <;> rfl
  | cons b L ih =>
    show (rdlI b).bind (fun n => (readAll (L ++ [a])).map (n :: ·)) = ((rdlI b).bind fun n => (readAll L).map (n :: ·)).bind _
    rw [ih]
    cases rdlI b with
    | none => rfl
    | some n =>
      cases readAll L with
      | none => rfl
      | some ns => cases rdlI a <;> rfl
theorem readAll_none {L : List (List UInt8)} {k : Nat} (h : readAll (L.take k) = none) : readAll L = none := by
  have : ∀ (A B : List (List UInt8)), readAll A = none → readAll (A ++ B) = none := by
    intro A
    induction A with
    | nil => intro B h; cases h
    | cons a A ih =>
      intro B h
      show (rdlI a).bind _ = none
      have h' : (rdlI a).bind (fun n => (readAll A).map (n :: ·)) = none := h
      cases ha : rdlI a with
      | none => rfl
      | some n =>
        rw [ha, Option.bind_some] at h'
        have h2 : readAll A = none := by
          cases hA : readAll A with
          | none => rfl
          | some ms => rw [hA] at h'; cases h'
        show (readAll (A ++ B)).map _ = none
        rw [ih B h2]; rfl
  have h2 := this _ (L.drop k) h
  rwa [List.take_append_drop] at h2

/-- A tree that rises is valid, and the other way round. -/
theorem treTo_iff (ns : List Nod) (k : Nat) : treTo ns k = true ↔ ∀ j, j < k → treAt ns j = true := by
  unfold treTo
  rw [List.all_eq_true]
  exact ⟨fun h j hj => h j (List.mem_range.2 hj), fun h j hj => h j (List.mem_range.1 hj)⟩
theorem rises_getD {ns : List Nod} (h : Rises befP keyN ns) {i j : Nat} (hij : i < j) (hj : j < ns.length) : befP (keyN (ns.getD i nodD)) (keyN (ns.getD j nodD)) = true := by
  have := (List.pairwise_iff_getElem.1 h) i j (by omega) hj hij
  rw [List.getD_eq_getElem?_getD, List.getD_eq_getElem?_getD, List.getElem?_eq_getElem hj, List.getElem?_eq_getElem (show i < ns.length by omega)]
  exact this
theorem rises_step {ns : List Nod} (h : ∀ j, 0 < j → j < ns.length → befP (keyN (ns.getD (j - 1) nodD)) (keyN (ns.getD j nodD)) = true) : Rises befP keyN ns := by
  refine List.pairwise_iff_getElem.2 fun i j hi hj hij => ?_
  have key : ∀ d i, i + d + 1 < ns.length → befP (keyN (ns.getD i nodD)) (keyN (ns.getD (i + d + 1) nodD)) = true := by
    intro d
    induction d with
    | zero => intro i hi; exact h (i + 1) (by omega) hi
    | succ d ih => intro i hi; exact sto_befP.trans _ _ _ (ih i (by omega)) (h (i + (d + 1) + 1) (by omega) hi)
  have := key (j - i - 1) i (by omega)
  rw [show i + (j - i - 1) + 1 = j by omega, List.getD_eq_getElem?_getD, List.getD_eq_getElem?_getD, List.getElem?_eq_getElem hj, List.getElem?_eq_getElem hi] at this
  exact this
theorem treB_rises {ns : List Nod} (hn : ∀ x ∈ ns, nodB x = true) (hl : ns.length ≤ 120) : treB ns = true ↔ Rises befP keyN ns := by
  have hmem : ∀ j, j < ns.length → ns.getD j nodD ∈ ns := fun j hj => by rw [List.getD_eq_getElem?_getD, List.getElem?_eq_getElem hj]; exact List.getElem_mem hj
  unfold treB
  rw [decide_eq_true hl, Bool.true_and, treTo_iff]
  constructor
  · intro h
    refine rises_step fun j h0 hj => ?_
    have := h j hj
    rw [treAt_next _ _ (by omega), Bool.and_eq_true] at this
    exact this.2
  · intro h j hj
    by_cases h0 : j = 0
    · rw [treAt_first _ _ h0]; exact hn _ (hmem j hj)
    · rw [treAt_next _ _ h0, hn _ (hmem j hj), Bool.true_and]
      exact rises_getD h (by omega) hj
/-- THE LAW of the program's last step: what sorting gave is a tree if and only if no place came twice. -/
theorem import_sort {ns P : List Nod} (hp : P.Perm ns) (hs : P.Pairwise fun a b => befP (keyN b) (keyN a) = false) (hn : ∀ x ∈ ns, nodB x = true) (hl : ns.length ≤ 120) :
    treB P = !(insN ns).2 ∧ ((insN ns).2 = false → P = (insN ns).1) := by
  obtain ⟨h1, h2⟩ := sort_ins (f := keyN) sto_befP hp hs
  have hn' : ∀ x ∈ P, nodB x = true := fun x hx => hn x (hp.subset hx)
  have ht := treB_rises hn' (by rw [hp.length_eq]; exact hl)
  cases hb : (insN ns).2 with
  | false =>
    obtain ⟨h3, h4⟩ := h1 hb
    exact ⟨by rw [ht.2 h3]; rfl, fun _ => h4⟩
  | true =>
    refine ⟨?_, fun h => by cases h⟩
    cases hT : treB P with
    | false => rfl
    | true => exact absurd (ht.1 hT) (h2 hb)
theorem insAll_snoc (L : List Nod) (x : Nod) : insN (L ++ [x]) = insStep befP keyN (insN L) x := by unfold insN insAll; rw [List.foldl_append]; rfl
theorem insOne_len (t : List Nod) (x : Nod) : (insOne befP keyN t x).length ≤ t.length + 1 := by
  have hs := congrArg List.length (split_while (fun y => befP (keyN y) (keyN x)) t)
  rw [List.length_append] at hs
  unfold insOne
  rw [List.length_append, List.length_cons]
  have : (insBehind keyN x (t.dropWhile fun y => befP (keyN y) (keyN x))).length ≤ (t.dropWhile fun y => befP (keyN y) (keyN x)).length := by
    generalize t.dropWhile (fun y => befP (keyN y) (keyN x)) = z
    cases z with
    | nil => exact Nat.le_refl _
    | cons y r =>
      show (if keyN y = keyN x then r else y :: r).length ≤ (y :: r).length
      split
      · rw [List.length_cons]; omega
      · exact Nat.le_refl _
  omega
theorem insN_len (L : List Nod) : (insN L).1.length ≤ L.length := by
  have h : ∀ (L : List Nod) (s : List Nod × Bool), (L.foldl (insStep befP keyN) s).1.length ≤ s.1.length + L.length := by
    intro L
    induction L with
    | nil => intro s; exact Nat.le_refl _
    | cons x L ih =>
      intro s
      rw [List.foldl_cons, List.length_cons]
      have h1 := ih (insStep befP keyN s x)
      have h2 := insOne_len s.1 x
      have h3 : (insStep befP keyN s x).1.length ≤ s.1.length + 1 := h2
      omega
  have := h L ([], false)
  unfold insN insAll
  simpa using this

end Go.Proofs.YtfibjcaidnofmaaGreatDoor

/- strings.Lines, walked: an iterator that keeps what is left in its box. -/
namespace Go.Proofs.YtfibjcaidnofmaaGreatDoor
open Go.RowKit
attribute [local go_sem] Oper.semAt_some

/-- What strings.Lines hands out: each line with its end; what stands behind the last end. -/
def chunksP (l : List UInt8) : List (List UInt8) := (linesP l).1.map (· ++ [10]) ++ (if (linesP l).2 = [] then [] else [(linesP l).2])
theorem chunks_nil : chunksP [] = [] := rfl
theorem chunks_line (a z : List UInt8) (h : ∀ c ∈ a, c ≠ 10) : chunksP (a ++ 10 :: z) = (a ++ [10]) :: chunksP z := by
  unfold chunksP
  rw [linesP_line a z h]; rfl
theorem chunks_none (a : List UInt8) (h : ∀ c ∈ a, c ≠ 10) (hn : a ≠ []) : chunksP a = [a] := by
  unfold chunksP
  rw [linesP_none a h]
  show [] ++ (if a = [] then [] else [a]) = [a]
  rw [if_neg hn]; rfl
theorem idx_cases : ∀ l : List UInt8, (∃ a z, l = a ++ 10 :: z ∧ (∀ c ∈ a, c ≠ 10) ∧ Lib.indexByte l 10 = (a.length : Nat)) ∨ ((∀ c ∈ l, c ≠ 10) ∧ Lib.indexByte l 10 = -1)
  | [] => .inr ⟨(fun c hc => by cases hc), rfl⟩
  | b :: l => by
    by_cases hb : b = 10
    · subst hb
      exact .inl ⟨[], l, rfl, (fun c hc => by cases hc), rfl⟩
    · have hbb : (b == 10) = false := beq_eq_false_iff_ne.2 hb
      rcases idx_cases l with ⟨a, z, e, h1, h2⟩ | ⟨h1, h2⟩
      · refine .inl ⟨b :: a, z, by rw [e]; rfl, fun c hc => ?_, ?_⟩
        · rcases List.mem_cons.1 hc with rfl | hc
          · exact hb
          · exact h1 c hc
        · unfold Lib.indexByte
          rw [hbb, h2]
          have : (((a.length : Nat) : Int) == -1) = false := by rw [beq_eq_false_iff_ne]; omega
          simp [this]
      · refine .inr ⟨fun c hc => ?_, ?_⟩
        · rcases List.mem_cons.1 hc with rfl | hc
          · exact hb
          · exact h1 c hc
        · unfold Lib.indexByte
          rw [hbb, h2]; rfl
def boxLen (w : World) (B : Nat) : Nat := match w.cell? ⟨B, 0, none⟩ with
  | some (.string r) => r.size
  | _ => 0
theorem boxLen_is {w : World} {B : Nat} {t : TypeId} {r : ByteArray} (h : Boxed w B t (.string r)) : boxLen w B = r.size := by unfold boxLen; rw [h.cell]

set_option maxHeartbeats 8000000 in
set_option maxRecDepth 100000 in
theorem lines1_box (m : Nat) (s : ByteArray) (hs : s.size ≤ 1048576) (Bx : Nat) :
    SeqBox m Tryz.prog 102 Bx 9 (.string s) (fun x : ByteArray => #[.string x]) (fun xs => xs.map (fun x => x.data.toList) = chunksP s.data.toList) (fun pre x => ∃ z, pre.map (fun x => x.data.toList) ++ x.data.toList :: z = chunksP s.data.toList) := by
  intro l J Jx W hJs hJd hbx hY h0
  refine callsIn_wide.2 ?_
  show Calls Tryz.prog 102 #[.func (.yield l) #[] #[], .pointer (some ⟨Bx, 0, none⟩)] W _
  have HJS := Lib.hid hJs; have HJD := Lib.hid hJd; have HY := Lib.hid hY; have HB := Lib.hid hbx; have H0 := Lib.hid h0
  clear hJs hJd hY hbx h0
  go_enter Tryz.func102, Tryz.ntmps102
  go_wp2_with fail
  go_loopw [3, 4] (fun _ _ wr => ∃ (pre : List ByteArray) (r : ByteArray), Boxed wr Bx 9 (.string r) ∧ J pre wr ∧ r.size ≤ 1048576 ∧ Hid (pre.map (fun x => x.data.toList) ++ chunksP r.data.toList = chunksP s.data.toList)) (fun _ _ wr => boxLen wr Bx)
  case atStart => exact ⟨[], s, HB.out, H0.out, hs, rfl⟩
  case round =>
    obtain ⟨pre, r, hbx, hj, hrs, HC⟩ := hrel
    have HBX := Lib.hid hbx
    have HJ := Lib.hid hj
    have hrl : r.data.toList.length = r.size := by simp
    have fB := hbx.cell
    have zB := hbx.frozen
    clear hj hbx
    by_cases h0 : r.size = 0
    · have i1 : ¬ (0 : Int) < (r.size : Int) := by omega
      have HE := Lib.hid (show pre.map (fun x => x.data.toList) = chunksP s.data.toList by
        rw [← HC.out, List.eq_nil_of_length_eq_zero (hrl.trans h0), chunks_nil, List.append_nil])
      clear hrl
      go_wp2_with fail
      go_end0
      exact ⟨⟨_, rfl⟩, .inl ⟨pre, HE.out, HJ.out⟩⟩
    · have i1 : (0 : Int) < (r.size : Int) := by omega
      have HX := Lib.hid (fun W => Tryz.strings_IndexByte r 10 W)
      have hten : (10 : Int).toNat.toUInt8 = 10 := rfl
      rw [hten] at HX
      rcases idx_cases r.data.toList with ⟨a, z, er, ha, hi⟩ | ⟨ha, hi⟩
      · rw [hi] at HX
        obtain ⟨k, hk⟩ : ∃ k, k = a.length + 1 := ⟨_, rfl⟩
        have hkz : ((a.length : Nat) : Int) + 1 = (k : Int) := by omega
        have hrs2 : r.size = a.length + (z.length + 1) := by rw [← hrl, er]; simp
        have hkr : k ≤ r.size := by omega
        have e1 : (r.extract 0 k).data.toList = a ++ [10] := by
          rw [ByteArray.data_extract, Array.toList_extract, List.extract_eq_take_drop, er, hk]
          rw [show a ++ 10 :: z = (a ++ [10]) ++ z by simp]
          rw [List.drop_zero, Nat.sub_zero, show a.length + 1 = (a ++ [10]).length by simp, List.take_append_of_le_length (Nat.le_refl _), List.take_length]
        have e2 : (r.extract k r.size).data.toList = z := by
          rw [ByteArray.data_extract, Array.toList_extract, List.extract_eq_take_drop, er, hk, hrs2]
          rw [show a ++ 10 :: z = (a ++ [10]) ++ z by simp]
          rw [show a.length + 1 = (a ++ [10]).length by simp, List.drop_append_of_le_length (Nat.le_refl _), List.drop_length, List.nil_append]
          exact List.take_of_length_le (by simp; omega)
        have e3 : (r.extract k r.size).size = z.length := by
          have h1 : (r.extract k r.size).data.toList.length = z.length := by rw [e2]
          rw [Array.length_toList] at h1; exact h1
        have HC2 := Lib.hid (show (pre ++ [r.extract 0 k]).map (fun x => x.data.toList) ++ chunksP (r.extract k r.size).data.toList = chunksP s.data.toList by
          rw [← HC.out, er, chunks_line a z ha, e2, List.map_append, List.map_cons, List.map_nil, e1, List.append_assoc]; rfl)
        have hpl : ∃ z', pre.map (fun x => x.data.toList) ++ (r.extract 0 k).data.toList :: z' = chunksP s.data.toList := ⟨chunksP z, by rw [e1, ← chunks_line a z ha, ← er]; exact HC.out⟩
        have hz3 : (r.extract k r.size).size < r.size := by omega
        have HZ3 := Lib.hid hz3
        have HS3 := Lib.hid (show (r.extract k r.size).size ≤ 1048576 by omega)
        have HPL := Lib.hid hpl
        clear hk er ha hi hrs2 e1 e2 e3 hpl hz3 hrl
        have i0 : (0 : Int) ≤ (a.length : Int) := by omega
        have ik1 : ¬ (r.size : Int) < (k : Int) := by omega
        have ik0 : ¬ (k : Int) < 0 := by omega
        go_wp2_with fail
        refine (HX.out _).mono ?_
        rintro e1 w1 ⟨rfl, rfl⟩
        have hbd := Lib.hid (show Boxed w1.drew Bx 9 (.string r) from HBX.out)
        have hjd := Lib.hid (show J pre w1.drew from HJD.out pre w1 1 HJ.out)
        go_upto_region 4 with fail
        refine AnyT.region (fun i => i == 9) (fun W => W.cell? ⟨Bx, 0, none⟩ = some (.string r)) (by kernel_rfl) hbd.out.cell (fun hHeld => ?_)
        generalize w1.drew = w4 at *
        ((refine AnyT.take 0 12 ?_ rfl (by kernel_rfl) (by kernel_rfl) (by kernel_rfl) (by kernel_rfl) rfl (by kernel_rfl) rfl (fun _ _ _ _ h => h) rfl ?_ (by assumption) ?_); rotate_left; (intro w hSw; (try dsimp only at hSw); go_simp; (try (with_reducible rfl))); simp only [Act.put, List.setIfInBounds_toArray, List.set_cons_zero, List.set_cons_succ])
        ((refine AnyT.takeAny 1 13 ?_ rfl (by kernel_rfl) (by kernel_rfl) (by kernel_rfl) rfl rfl (fun _ _ _ _ h => h) rfl ?_ (by assumption) ?_); rotate_left; (intro w; go_simp; (try (with_reducible rfl))); simp only [Act.put, List.setIfInBounds_toArray, List.set_cons_zero, List.set_cons_succ])
        refine AnyT.takeAny 2 14 (.int .i64 (k : Int)) rfl (by kernel_rfl) (by kernel_rfl) (by kernel_rfl) rfl rfl (fun _ _ _ _ h => h) rfl (fun W => by go_simp; rw [IntKind.wrap_i64]; omega) (by assumption) ?_
        simp only [Act.put, List.setIfInBounds_toArray, List.set_cons_zero, List.set_cons_succ]
        refine AnyT.takeAny 3 15 (.string (r.extract 0 k)) rfl (by kernel_rfl) (by kernel_rfl) (by kernel_rfl) rfl rfl (fun _ _ _ _ h => h) rfl (fun W => by go_simp) (by assumption) ?_
        simp only [Act.put, List.setIfInBounds_toArray, List.set_cons_zero, List.set_cons_succ]
        ((refine AnyT.take 4 16 ?_ rfl (by kernel_rfl) (by kernel_rfl) (by kernel_rfl) (by kernel_rfl) rfl (by kernel_rfl) rfl (fun _ _ _ _ h => h) rfl ?_ (by assumption) ?_); rotate_left; (intro w hSw; (try dsimp only at hSw); go_simp; (try (with_reducible rfl))); simp only [Act.put, List.setIfInBounds_toArray, List.set_cons_zero, List.set_cons_succ])
        ((refine AnyT.takeAny 5 17 ?_ rfl (by kernel_rfl) (by kernel_rfl) (by kernel_rfl) rfl rfl (fun _ _ _ _ h => h) rfl ?_ (by assumption) ?_); rotate_left; (intro w; go_simp; (try (with_reducible rfl))); simp only [Act.put, List.setIfInBounds_toArray, List.set_cons_zero, List.set_cons_succ])
        refine AnyT.takeAny 6 18 (.int .i64 (k : Int)) rfl (by kernel_rfl) (by kernel_rfl) (by kernel_rfl) rfl rfl (fun _ _ _ _ h => h) rfl (fun W => by go_simp; rw [IntKind.wrap_i64]; omega) (by assumption) ?_
        simp only [Act.put, List.setIfInBounds_toArray, List.set_cons_zero, List.set_cons_succ]
        refine AnyT.takeAny 7 19 (.string (r.extract k r.size)) rfl (by kernel_rfl) (by kernel_rfl) (by kernel_rfl) rfl rfl (fun _ _ _ _ h => h) rfl (fun W => by go_simp) (by assumption) ?_
        simp only [Act.put, List.setIfInBounds_toArray, List.set_cons_zero, List.set_cons_succ]
        ((refine AnyT.takeAny 8 3 ?_ rfl (by kernel_rfl) (by kernel_rfl) (by kernel_rfl) rfl rfl (fun _ _ _ _ h => h) rfl ?_ (by assumption) ?_); rotate_left; (intro w; go_simp; (try (with_reducible rfl))); simp only [Act.put, List.setIfInBounds_toArray, List.set_cons_zero, List.set_cons_succ])
        have zB := hbd.out.frozen
        ((refine AnyT.last (i := 9) (by kernel_rfl) rfl (by kernel_rfl) (fun K hK => ?_)))
        go_simp
        refine hK.out _ _ ?_
        clear hK K
        (try simp only [Act.put, List.setIfInBounds_toArray, List.set_cons_zero, List.set_cons_succ])
        refine AnyT.done (by kernel_rfl) ?_ _
        have HJ5 := Lib.hid (HJS.out pre w4 _ (.string (r.extract k r.size)) hjd.out hbd.out)
        have HB5 := Lib.hid (hbd.out.set (.string (r.extract k r.size)))
        clear hHeld zB
        generalize w4.setCell ⟨Bx, 0, none⟩ (.string (r.extract k r.size)) = w5 at *
        go_upto_region 6 with fail
        obtain ⟨fn, tmps, assign, body, hy, hR⟩ := HY.out pre (r.extract 0 k) w5 _ HJ5.out HB5.out HPL.out
        refine (wpIn_wide (n := m + 1)).1 ?_
        gi_wp2
        refine hR.mono ?_
        rintro e6 w6 (⟨rfl, hJ6, hb6⟩ | ⟨rfl, hJx6⟩)
        · have HJ6 := Lib.hid hJ6; have HB6 := Lib.hid hb6
          clear hJ6 hb6
          gi_wp2
          go_wp2_with fail
          go_roundw
          case rel => exact ⟨_, _, HB6.out, HJ6.out, HS3.out, HC2⟩
          case measure => rw [boxLen_is HB6.out, boxLen_is HBX.out]; exact HZ3.out
        · have HJ6 := Lib.hid hJx6
          clear hJx6
          gi_wp2
          go_wp2_with fail
          refine bodyPost_ret (results_none rfl _ _ _) rfl ⟨⟨_, rfl⟩, .inr ⟨_, HJ6.out⟩⟩
      · rw [hi] at HX
        have hne : r.data.toList ≠ [] := fun h => by rw [h] at hrl; simp at hrl; omega
        have HC2 := Lib.hid (show (pre ++ [r]).map (fun x => x.data.toList) ++ chunksP (⟨#[]⟩ : ByteArray).data.toList = chunksP s.data.toList by
          rw [← HC.out, chunks_none _ ha hne, List.map_append, List.map_cons, List.map_nil, List.append_assoc]; rfl)
        have hpl : ∃ z', pre.map (fun x => x.data.toList) ++ r.data.toList :: z' = chunksP s.data.toList := ⟨[], by rw [← chunks_none _ ha hne]; exact HC.out⟩
        have HZ3 := Lib.hid (show (⟨#[]⟩ : ByteArray).size < r.size by show 0 < r.size; omega)
        have HS3 := Lib.hid (show (⟨#[]⟩ : ByteArray).size ≤ 1048576 by show 0 ≤ 1048576; omega)
        have HPL := Lib.hid hpl
        clear ha hi hpl hne hrl
        go_wp2_with fail
        refine (HX.out _).mono ?_
        rintro e1 w1 ⟨rfl, rfl⟩
        have HJ5 := Lib.hid (HJS.out pre w1 _ (.string ⟨#[]⟩) HJ.out HBX.out)
        have HB5 := Lib.hid (HBX.out.set (.string ⟨#[]⟩))
        go_upto_region 6 with fail
        generalize w1.setCell ⟨Bx, 0, none⟩ (.string ⟨#[]⟩) = w5 at *
        obtain ⟨fn, tmps, assign, body, hy, hR⟩ := HY.out pre r w5 _ HJ5.out HB5.out HPL.out
        refine (wpIn_wide (n := m + 1)).1 ?_
        gi_wp2
        refine hR.mono ?_
        rintro e6 w6 (⟨rfl, hJ6, hb6⟩ | ⟨rfl, hJx6⟩)
        · have HJ6 := Lib.hid hJ6; have HB6 := Lib.hid hb6
          clear hJ6 hb6
          gi_wp2
          go_wp2_with fail
          go_roundw
          case rel => exact ⟨_, _, HB6.out, HJ6.out, HS3.out, HC2⟩
          case measure => rw [boxLen_is HB6.out, boxLen_is HBX.out]; exact HZ3.out
        · have HJ6 := Lib.hid hJx6
          clear hJx6
          gi_wp2
          go_wp2_with fail
          refine bodyPost_ret (results_none rfl _ _ _) rfl ⟨⟨_, rfl⟩, .inr ⟨_, HJ6.out⟩⟩

end Go.Proofs.YtfibjcaidnofmaaGreatDoor
