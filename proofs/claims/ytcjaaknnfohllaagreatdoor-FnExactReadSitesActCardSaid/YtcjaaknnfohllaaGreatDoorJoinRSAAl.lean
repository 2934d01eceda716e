/- Reading a plain form: the reference's reader and the program's, as plain functions, and that both read back what the plain form says. -/
import Derived.Test.YtcjaaknnfohllaaGreatDoorJoinRSAAg
import Derived.Lib.AtoiAll
import Derived.Lib.Split
import Derived.Lib.SplitLaws
import Derived.Test.YtcjaaknnfohllaaGreatDoorJoinRSAAd
import Derived.Test.YtcjaaknnfohllaaGreatDoorJoinRSAAf
import Derived.StillTailTactics
namespace Go.Proofs.YtcjaaknnfohllaaGreatDoor

def numCh (c : UInt8) : Bool := isDig c || c == 45 || c == 46

/-- What stands behind a double quote: the reference's reading. -/
def qS : List UInt8 → List UInt8 × List UInt8
  | [] => ([], [])
  | [c] => if c = 34 then ([], []) else ([c], [])
  | c :: d :: r => if c = 34 then (if d = 34 then (34 :: (qS r).1, (qS r).2) else ([], d :: r)) else (c :: (qS (d :: r)).1, (qS (d :: r)).2)
/-- The program's: none where no quote ends it. -/
def qI : List UInt8 → Option (List UInt8 × List UInt8)
  | [] => none
  | [c] => if c = 34 then some ([], []) else none
  | c :: d :: r => if c = 34 then (if d = 34 then (qI r).map (fun p => (34 :: p.1, p.2)) else some ([], d :: r)) else (qI (d :: r)).map (fun p => (c :: p.1, p.2))
theorem qS_plain (c : UInt8) (l : List UInt8) (h : c ≠ 34) : qS (c :: l) = (c :: (qS l).1, (qS l).2) := by
  cases l with
  | nil => unfold qS; rw [if_neg h]
  | cons d r => conv => lhs; unfold qS
                rw [if_neg h]
theorem qS_two (r : List UInt8) : qS (34 :: 34 :: r) = (34 :: (qS r).1, (qS r).2) := by
  conv => lhs; unfold qS
  rw [if_pos rfl, if_pos rfl]
theorem qS_end (l : List UInt8) (h : ∀ r, l ≠ 34 :: r) : qS (34 :: l) = ([], l) := by
  cases l with
  | nil => unfold qS; rw [if_pos rfl]
  | cons d r =>
    have hd : d ≠ 34 := fun e => h r (by rw [e])
    conv => lhs; unfold qS
    rw [if_pos rfl, if_neg hd]
theorem qI_plain (c : UInt8) (l : List UInt8) (h : c ≠ 34) : qI (c :: l) = (qI l).map (fun p => (c :: p.1, p.2)) := by
  cases l with
  | nil => unfold qI; rw [if_neg h]; rfl
  | cons d r => conv => lhs; unfold qI
                rw [if_neg h]
theorem qI_two (r : List UInt8) : qI (34 :: 34 :: r) = (qI r).map (fun p => (34 :: p.1, p.2)) := by
  conv => lhs; unfold qI
  rw [if_pos rfl, if_pos rfl]
theorem qI_end (l : List UInt8) (h : ∀ r, l ≠ 34 :: r) : qI (34 :: l) = some ([], l) := by
  cases l with
  | nil => unfold qI; rw [if_pos rfl]
  | cons d r =>
    have hd : d ≠ 34 := fun e => h r (by rw [e])
    conv => lhs; unfold qI
    rw [if_pos rfl, if_neg hd]
theorem qS_doubled (r rest : List UInt8) (h : ∀ z, rest ≠ 34 :: z) : qS (doubled r ++ 34 :: rest) = (r, rest) := by
  induction r with
  | nil => exact qS_end rest h
  | cons c r ih =>
    by_cases hc : c = 34
    · subst hc
      have e : doubled (34 :: r) = 34 :: 34 :: doubled r := by unfold doubled; rw [List.flatMap_cons]; rfl
      rw [e, List.cons_append, List.cons_append, qS_two, ih]
    · have e : doubled (c :: r) = c :: doubled r := by unfold doubled; rw [List.flatMap_cons, if_neg hc]; rfl
      rw [e, List.cons_append, qS_plain c _ hc, ih]
theorem qI_doubled (r rest : List UInt8) (h : ∀ z, rest ≠ 34 :: z) : qI (doubled r ++ 34 :: rest) = some (r, rest) := by
  induction r with
  | nil => exact qI_end rest h
  | cons c r ih =>
    by_cases hc : c = 34
    · subst hc
      have e : doubled (34 :: r) = 34 :: 34 :: doubled r := by unfold doubled; rw [List.flatMap_cons]; rfl
      rw [e, List.cons_append, List.cons_append, qI_two, ih]; rfl
    · have e : doubled (c :: r) = c :: doubled r := by unfold doubled; rw [List.flatMap_cons, if_neg hc]; rfl
      rw [e, List.cons_append, qI_plain c _ hc, ih]; rfl
theorem qS_rest : ∀ (n : Nat) (l : List UInt8), l.length ≤ n → (qS l).2.length ≤ l.length
  | n, [], _ => by unfold qS; exact Nat.le_refl _
  | 0, _ :: _, h => absurd h (by simp)
  | n + 1, c :: l, h => by
    rw [List.length_cons] at h
    by_cases hc : c = 34
    · subst hc
      cases l with
      | nil => rw [qS_end [] (fun r e => by cases e)]; exact Nat.zero_le _
      | cons d r =>
        by_cases hd : d = 34
        · subst hd
          rw [List.length_cons] at h
          have := qS_rest n r (by omega)
          rw [qS_two, List.length_cons, List.length_cons]; show (qS r).2.length ≤ _; omega
        · rw [qS_end _ (fun z e => hd (by injection e))]
          show (d :: r).length ≤ _
          rw [List.length_cons (a := 34)]; omega
    · have := qS_rest n l (by omega)
      rw [qS_plain c l hc, List.length_cons]; show (qS l).2.length ≤ _; omega
theorem qS_read : ∀ (n : Nat) (l : List UInt8), l.length ≤ n → (qS l).1.length ≤ l.length
  | n, [], _ => by unfold qS; exact Nat.le_refl _
  | 0, _ :: _, h => absurd h (by simp)
  | n + 1, c :: l, h => by
    rw [List.length_cons] at h
    by_cases hc : c = 34
    · subst hc
      cases l with
      | nil => rw [qS_end [] (fun r e => by cases e)]; exact Nat.zero_le _
      | cons d r =>
        by_cases hd : d = 34
        · subst hd
          rw [List.length_cons] at h
          have := qS_read n r (by omega)
          rw [qS_two, List.length_cons, List.length_cons, List.length_cons]; omega
        · rw [qS_end _ (fun z e => hd (by injection e))]; exact Nat.zero_le _
    · have := qS_read n l (by omega)
      rw [qS_plain c l hc, List.length_cons, List.length_cons]; omega

/-- A number of at most k digits. -/
def dS : Nat → Nat → List UInt8 → Nat × List UInt8
  | 0, n, l => (n, l)
  | _ + 1, n, [] => (n, [])
  | k + 1, n, c :: l => if isDig c then dS k (10 * n + dg c) l else (n, c :: l)
theorem dS_rest : ∀ (k n : Nat) (l : List UInt8), (dS k n l).2.length ≤ l.length
  | 0, _, _ => Nat.le_refl _
  | _ + 1, _, [] => Nat.le_refl _
  | k + 1, n, c :: l => by
    unfold dS
    split
    · have := dS_rest k (10 * n + dg c) l; rw [List.length_cons]; omega
    · exact Nat.le_refl _
theorem dS_digits (rest : List UInt8) (hr : ∀ c z, rest = c :: z → isDig c = false) : ∀ (k n : Nat) (l : List UInt8), (∀ c ∈ l, isDig c = true) → l.length ≤ k → dS k n (l ++ rest) = (valFrom n l, rest)
  | 0, n, [], _, _ => rfl
  | 0, _, _ :: _, _, h => absurd h (by simp)
  | k + 1, n, [], _, _ => by
    rw [List.nil_append, valFrom_nil]
    cases rest with
    | nil => rfl
    | cons c z => unfold dS; rw [hr c z rfl]; rfl
  | k + 1, n, c :: l, hd, hl => by
    rw [List.cons_append]
    unfold dS
    rw [hd c (List.mem_cons_self ..), if_pos rfl, valFrom_cons]
    exact dS_digits rest hr k _ l (fun x hx => hd x (List.mem_cons_of_mem _ hx)) (by simpa using hl)
/-- Numbers with commas between them, and the parenthesis behind. -/
def cS : Nat → List UInt8 → List UInt8 × List UInt8
  | 0, l => ([], l)
  | f + 1, l => match (dS 3 0 l).2 with
    | 44 :: r => (UInt8.ofNat (dS 3 0 l).1 :: (cS f r).1, (cS f r).2)
    | 41 :: r => ([UInt8.ofNat (dS 3 0 l).1], r)
    | r => ([UInt8.ofNat (dS 3 0 l).1], r)
theorem cS_comma (f : Nat) (l r : List UInt8) (h : (dS 3 0 l).2 = 44 :: r) : cS (f + 1) l = (UInt8.ofNat (dS 3 0 l).1 :: (cS f r).1, (cS f r).2) := by
  conv => lhs; unfold cS
  rw [h]
  rfl
theorem cS_close (f : Nat) (l r : List UInt8) (h : (dS 3 0 l).2 = 41 :: r) : cS (f + 1) l = ([UInt8.ofNat (dS 3 0 l).1], r) := by
  conv => lhs; unfold cS
  rw [h]
  rfl
theorem cS_stop (f : Nat) (l : List UInt8) (h : ∀ r, (dS 3 0 l).2 ≠ 44 :: r) (h2 : ∀ r, (dS 3 0 l).2 ≠ 41 :: r) : cS (f + 1) l = ([UInt8.ofNat (dS 3 0 l).1], (dS 3 0 l).2) := by
  conv => lhs; unfold cS
  split
  · rename_i r e; exact absurd e (h r)
  · rename_i r e; exact absurd e (h2 r)
  · rfl
theorem cS_fuel : ∀ (f g : Nat) (l : List UInt8), l.length < f → l.length < g → cS f l = cS g l
  | 0, _, _, h, _ => absurd h (by simp)
  | _, 0, _, _, h => absurd h (by simp)
  | f + 1, g + 1, l, hf, hg => by
    have hr := dS_rest 3 0 l
    unfold cS
    split
    · rename_i r e
      rw [e, List.length_cons] at hr
      rw [cS_fuel f g r (by omega) (by omega)]
    · rfl
    · rfl
theorem cS_rest : ∀ (f : Nat) (l : List UInt8), (cS f l).2.length ≤ l.length
  | 0, _ => Nat.le_refl _
  | f + 1, l => by
    have hr := dS_rest 3 0 l
    unfold cS
    split
    · rename_i r e
      rw [e, List.length_cons] at hr
      have := cS_rest f r
      show (cS f r).2.length ≤ _
      omega
    · rename_i r e; rw [e, List.length_cons] at hr; show r.length ≤ _; omega
    · exact hr
theorem cS_read : ∀ (f : Nat) (l : List UInt8), (cS f l).1.length ≤ l.length + 1
  | 0, _ => Nat.zero_le _
  | f + 1, l => by
    have hr := dS_rest 3 0 l
    unfold cS
    split
    · rename_i r e
      rw [e, List.length_cons] at hr
      have := cS_read f r
      show (_ :: (cS f r).1).length ≤ _
      rw [List.length_cons]; omega
    · rename_i r e; show 1 ≤ _; omega
    · show 1 ≤ _; omega
theorem dec_three (c : UInt8) : (Lib.decDigits c.toNat).length ≤ 3 := decDigits_len 2 c.toNat (by have := c.toNat_lt; omega)
theorem cS_codes (rest : List UInt8) : ∀ (r : List UInt8), r ≠ [] → ∀ f, r.length ≤ f → cS f (codesTo r ++ 41 :: rest) = (r, rest)
  | [], h, _, _ => absurd rfl h
  | [c], _, f, hf => by
    obtain ⟨f, rfl⟩ : ∃ g, f = g + 1 := ⟨f - 1, by simp at hf; omega⟩
    have h := dS_digits (41 :: rest) (fun c z e => by injection e with e1 _; rw [← e1]; rfl) 3 0 (Lib.decDigits c.toNat) (decDigits_dig _) (dec_three c)
    rw [decDigits_val] at h
    rw [codesTo_first, cS_close f _ rest (by rw [h]), h]
    simp
  | c :: d :: r, _, f, hf => by
    obtain ⟨f, rfl⟩ : ∃ g, f = g + 1 := ⟨f - 1, by simp at hf; omega⟩
    have e : codesTo (c :: d :: r) = Lib.decDigits c.toNat ++ 44 :: codesTo (d :: r) := by
      unfold codesTo
      rw [List.map_cons, join_cons, List.map_cons, join_cons, List.map_cons, List.flatten_cons]
      simp
    have h := dS_digits (44 :: (codesTo (d :: r) ++ 41 :: rest)) (fun c z e => by injection e with e1 _; rw [← e1]; rfl) 3 0 (Lib.decDigits c.toNat) (decDigits_dig _) (dec_three c)
    rw [decDigits_val] at h
    have ih := cS_codes rest (d :: r) (by simp) f (by simpa using hf)
    rw [e, List.append_assoc, List.cons_append, cS_comma f _ (codesTo (d :: r) ++ 41 :: rest) (by rw [h]), h, ih]
    simp

/-- A plain form, as far as there is one: the reference's reading, and what is left. -/
def tS : Nat → List UInt8 → List UInt8 × List UInt8
  | 0, l => ([], l)
  | f + 1, l =>
    if [34].isPrefixOf l then (match (qS (l.drop 1)).2 with | 95 :: r => ((qS (l.drop 1)).1 ++ (tS f r).1, (tS f r).2) | r => ((qS (l.drop 1)).1, r))
    else if [36, 67, 40].isPrefixOf l then (match (cS l.length (l.drop 3)).2 with | 95 :: r => ((cS l.length (l.drop 3)).1 ++ (tS f r).1, (tS f r).2) | r => ((cS l.length (l.drop 3)).1, r))
    else (l.takeWhile numCh, l.dropWhile numCh)
/-- Behind a part: an underline and more, or the end. -/
def tT (f : Nat) (p : List UInt8 × List UInt8) : List UInt8 × List UInt8 := match p.2 with
  | 95 :: r => (p.1 ++ (tS f r).1, (tS f r).2)
  | r => (p.1, r)
theorem tT_more (f : Nat) (a r : List UInt8) : tT f (a, 95 :: r) = (a ++ (tS f r).1, (tS f r).2) := rfl
theorem tT_stop (f : Nat) (a l : List UInt8) (h : ∀ r, l ≠ 95 :: r) : tT f (a, l) = (a, l) := by
  unfold tT
  dsimp only
  split
  · rename_i r; exact absurd rfl (h r)
  · rfl
theorem tS_q (f : Nat) (l : List UInt8) (h : [34].isPrefixOf l = true) : tS (f + 1) l = tT f (qS (l.drop 1)) := by
  conv => lhs; unfold tS
  rw [if_pos h]; rfl
theorem tS_c (f : Nat) (l : List UInt8) (h : [34].isPrefixOf l = false) (h2 : [36, 67, 40].isPrefixOf l = true) : tS (f + 1) l = tT f (cS l.length (l.drop 3)) := by
  conv => lhs; unfold tS
  rw [h, if_neg (by decide), if_pos h2]; rfl
theorem tS_n (f : Nat) (l : List UInt8) (h : [34].isPrefixOf l = false) (h2 : [36, 67, 40].isPrefixOf l = false) : tS (f + 1) l = (l.takeWhile numCh, l.dropWhile numCh) := by
  conv => lhs; unfold tS
  rw [h, if_neg (by decide), h2, if_neg (by decide)]
theorem formP_first (l : List UInt8) (h : l ≠ []) : formP l = 34 :: (doubled l ++ [34]) ∨ formP l = 36 :: 67 :: 40 :: (codesTo l ++ [41]) := by
  cases l with
  | nil => exact absurd rfl h
  | cons c r =>
    rw [show formP (c :: r) = if showsC c then quoteP (c :: r) else codesP (c :: r) from rfl]
    split
    · left; exact quoteP_eq _
    · right; exact codesP_eq _
theorem moreP_no (k : Nat) (l : List UInt8) (hk : l.length ≤ k) (c : UInt8) (hc : c ≠ 95) : ∀ z, moreP k l ≠ c :: z := by
  intro z e
  by_cases h : l = []
  · subst h; rw [moreP_nil] at e; cases e
  · rw [moreP_step k l h hk] at e
    injection e with e1 _
    exact hc e1.symm
theorem codesTo_pos (r : List UInt8) : r.length ≤ (codesTo r).length := by
  induction r with
  | nil => exact Nat.zero_le _
  | cons c r ih =>
    have h1 := decDigits_ge 0 c.toNat
    cases r with
    | nil =>
      rw [codesTo_first]
      by_cases h : 1 ≤ c.toNat
      · exact h1 (by omega)
      · rw [decDigits_small (by omega)]; exact Nat.le_refl _
    | cons d r =>
      have e : codesTo (c :: d :: r) = Lib.decDigits c.toNat ++ 44 :: codesTo (d :: r) := by
        unfold codesTo
        rw [List.map_cons, join_cons, List.map_cons, join_cons, List.map_cons, List.flatten_cons]
        simp
      rw [e]
      simp only [List.length_append, List.length_cons] at ih ⊢
      omega
theorem moreP_rest (k : Nat) (l z : List UInt8) (hk : l.length ≤ k) (c : UInt8) (hc : c ≠ 95) (hz : ∀ r, z ≠ c :: r) : ∀ r, moreP k l ++ z ≠ c :: r := by
  intro r e
  by_cases h : l = []
  · subst h; rw [moreP_nil, List.nil_append] at e; exact hz r e
  · rw [moreP_step k l h hk, List.cons_append] at e
    injection e with e1 _
    exact hc e1.symm
/-- The forms of the runs, read. -/
theorem tS_runs (z : List UInt8) (hz34 : ∀ r, z ≠ 34 :: r) (hz95 : ∀ r, z ≠ 95 :: r) : ∀ (n : Nat) (l : List UInt8) (k f : Nat), l.length ≤ n → l ≠ [] → l.length ≤ k → l.length ≤ f → tS f (formP (runOf l) ++ (moreP k (runRest l) ++ z)) = (l, z)
  | 0, l, _, _, h, hl, _, _ => absurd (List.eq_nil_of_length_eq_zero (Nat.le_zero.1 h)) hl
  | n + 1, l, k, f, hn, hl, hk, hf => by
    have h1 := runRest_len l hl
    have h2 := runs_split l hl
    have hro : runOf l ≠ [] := by
      intro e
      rw [e, List.nil_append] at h2
      rw [h2] at h1; omega
    obtain ⟨f, rfl⟩ : ∃ g, f = g + 1 := ⟨f - 1, by have := List.length_pos_iff.2 hl; omega⟩
    have more : tT f (runOf l, moreP k (runRest l) ++ z) = (l, z) := by
      by_cases hn0 : runRest l = []
      · rw [hn0, moreP_nil, List.nil_append, tT_stop _ _ _ hz95]
        rw [hn0, List.append_nil] at h2
        rw [h2]
      · rw [moreP_step k _ hn0 (by omega), List.cons_append, tT_more, List.append_assoc, tS_runs z hz34 hz95 n (runRest l) k f (by omega) hn0 (by omega) (by omega), h2]
    rcases formP_first (runOf l) hro with e | e
    · have hq := qS_doubled (runOf l) (moreP k (runRest l) ++ z) (moreP_rest k _ z (by omega) 34 (by decide) hz34)
      rw [e, List.cons_append, List.append_assoc]
      show tS (f + 1) (34 :: (doubled (runOf l) ++ 34 :: (moreP k (runRest l) ++ z))) = (l, z)
      rw [tS_q _ _ rfl]
      show tT f (qS (doubled (runOf l) ++ 34 :: (moreP k (runRest l) ++ z))) = (l, z)
      rw [hq]
      exact more
    · have hc := cS_codes (moreP k (runRest l) ++ z) (runOf l) hro (36 :: 67 :: 40 :: (codesTo (runOf l) ++ 41 :: (moreP k (runRest l) ++ z))).length (by have := codesTo_pos (runOf l); simp only [List.length_cons, List.length_append]; omega)
      rw [e, List.cons_append, List.cons_append, List.cons_append, List.append_assoc]
      show tS (f + 1) (36 :: 67 :: 40 :: (codesTo (runOf l) ++ 41 :: (moreP k (runRest l) ++ z))) = (l, z)
      rw [tS_c _ _ rfl rfl]
      show tT f (cS (36 :: 67 :: 40 :: (codesTo (runOf l) ++ 41 :: (moreP k (runRest l) ++ z))).length (codesTo (runOf l) ++ 41 :: (moreP k (runRest l) ++ z))) = (l, z)
      rw [hc]
      exact more
theorem trimZ_sub (l : List UInt8) : ∀ c ∈ trimZ l, c ∈ l := by
  intro c hc
  unfold trimZ at hc
  rw [List.mem_reverse] at hc
  exact List.mem_reverse.1 ((List.dropWhile_sublist _).subset hc)
theorem numText_ch (n : Int) : ∀ c ∈ numText n, numCh c = true := by
  have hd : ∀ c, isDig c = true → numCh c = true := fun c h => by unfold numCh; rw [h]; rfl
  have hw : ∀ k, ∀ c ∈ wholeT k, numCh c = true := by
    intro k c hc
    unfold wholeT at hc
    split at hc
    · cases hc
    · exact hd c (decDigits_dig k c hc)
  have hf : ∀ r, ∀ c ∈ fracT r, numCh c = true := by
    intro r c hc
    unfold fracT at hc
    split at hc
    · cases hc
    · rcases List.mem_cons.1 hc with h | h
      · rw [h]; rfl
      · exact hd c (decDigits_dig _ c (List.mem_of_mem_drop (trimZ_sub _ c h)))
  have ha : ∀ a, ∀ c ∈ absT a, numCh c = true := by
    intro a c hc
    unfold absT at hc
    rcases List.mem_append.1 hc with h | h
    · exact hw _ c h
    · exact hf _ c h
  intro c hc
  unfold numText at hc
  split at hc
  · rw [List.mem_singleton.1 hc]; rfl
  · split at hc
    · rcases List.mem_cons.1 hc with h | h
      · rw [h]; rfl
      · exact ha _ c h
    · exact ha _ c hc
theorem canonB_ch (l : List UInt8) (h : canonB l = true) : ∀ c ∈ l, numCh c = true := by
  unfold canonB at h
  have := of_decide_eq_true h
  intro c hc
  rw [← this] at hc
  exact numText_ch _ c hc
theorem takeWhile_all (p : UInt8 → Bool) (z : List UInt8) (hz : ∀ c r, z = c :: r → p c = false) : ∀ l : List UInt8, (∀ c ∈ l, p c = true) → (l ++ z).takeWhile p = l ∧ (l ++ z).dropWhile p = z
  | [], _ => by
    cases z with
    | nil => exact ⟨rfl, rfl⟩
    | cons c r =>
      have := hz c r rfl
      rw [List.nil_append, List.takeWhile_cons, List.dropWhile_cons, this]
      exact ⟨rfl, rfl⟩
  | c :: l, h => by
    obtain ⟨h1, h2⟩ := takeWhile_all p z hz l (fun x hx => h x (List.mem_cons_of_mem _ hx))
    rw [List.cons_append, List.takeWhile_cons, List.dropWhile_cons, h c (List.mem_cons_self ..)]
    exact ⟨by rw [if_pos rfl, h1], by rw [if_pos rfl, h2]⟩
/-- What the reference reads of a plain form: the text. -/
theorem tS_plain (u z : List UInt8) (f : Nat) (hf : u.length < f) (hz34 : ∀ r, z ≠ 34 :: r) (hz95 : ∀ r, z ≠ 95 :: r) (hzn : ∀ c r, z = c :: r → numCh c = false) : tS f (plainP u ++ z) = (u, z) := by
  obtain ⟨f, rfl⟩ : ∃ g, f = g + 1 := ⟨f - 1, by omega⟩
  cases hc : canonB u
  · by_cases h0 : u = []
    · subst h0
      have : plainP [] = [34, 34] := by unfold plainP; rw [hc]; rfl
      rw [this]
      show tS (f + 1) (34 :: 34 :: z) = ([], z)
      rw [tS_q _ _ rfl]
      show tT f (qS (34 :: z)) = ([], z)
      rw [qS_end z hz34, tT_stop _ _ _ hz95]
    · rw [plainP_runs hc h0, List.append_assoc]
      exact tS_runs z hz34 hz95 u.length u u.length (f + 1) (Nat.le_refl _) h0 (Nat.le_refl _) (by omega)
  · have hp : plainP u = u := by unfold plainP; rw [hc]; rfl
    have hu : u ≠ [] := fun e => by subst e; rw [canonB_nil] at hc; cases hc
    have hch := canonB_ch u hc
    rw [hp]
    have h34 : ∀ c : UInt8, numCh c = false → ∀ p, [c].isPrefixOf (u ++ p) = false := by
      intro c hcc p
      cases u with
      | nil => exact absurd rfl hu
      | cons d r =>
        have hd := hch d (List.mem_cons_self ..)
        have : c ≠ d := fun e => by rw [e, hd] at hcc; cases hcc
        rw [List.cons_append, List.isPrefixOf, beq_eq_false_iff_ne.2 this]; rfl
    have h36 : [36, 67, 40].isPrefixOf (u ++ z) = false := by
      cases u with
      | nil => exact absurd rfl hu
      | cons d r =>
        have hd := hch d (List.mem_cons_self ..)
        have : (36 : UInt8) ≠ d := fun e => by rw [← e] at hd; cases hd
        rw [List.cons_append, List.isPrefixOf, beq_eq_false_iff_ne.2 this]; rfl
    obtain ⟨h1, h2⟩ := takeWhile_all numCh z hzn u hch
    rw [tS_n f _ (h34 34 rfl z) h36, h1, h2]
end Go.Proofs.YtcjaaknnfohllaaGreatDoor

/- Reading a plain form: the program's reader as plain functions, and that it reads back what the plain form says. -/
namespace Go.Proofs.YtcjaaknnfohllaaGreatDoor

def byteI (v : Int) : UInt8 := UInt8.ofNat (v % 256).toNat
def atoiV (l : List UInt8) : Int := match Lib.atoiAll l with
  | .ok v => v
  | .range => Lib.atoiSat l
  | _ => 0
def wordsB (s : ByteArray) : List ByteArray := Lib.splitB ⟨#[44]⟩ 0 (Lib.countB s ⟨#[44]⟩) s
def bI (l : List UInt8) : List UInt8 × List UInt8 := ((wordsB ⟨(Lib.cut l [41]).1.toArray⟩).map (fun w => byteI (atoiV w.data.toList)), (Lib.cut l [41]).2.1)

theorem index_app (a z : List UInt8) (x : UInt8) (h : ∀ c ∈ a, c ≠ x) : Lib.index (a ++ x :: z) [x] = a.length := by
  induction a with
  | nil => rw [List.nil_append, index_cons, if_pos rfl]; rfl
  | cons c a ih =>
    have ih' := ih (fun d hd => h d (List.mem_cons_of_mem _ hd))
    rw [List.cons_append, index_cons, if_neg (h c (List.mem_cons_self ..)), ih', if_neg (by omega), List.length_cons]
    omega
theorem index_none (a : List UInt8) (x : UInt8) (h : ∀ c ∈ a, c ≠ x) : Lib.index a [x] = -1 := by
  induction a with
  | nil => rfl
  | cons c a ih =>
    have ih' := ih (fun d hd => h d (List.mem_cons_of_mem _ hd))
    rw [index_cons, if_neg (h c (List.mem_cons_self ..)), ih', if_pos rfl]
theorem cut_app (a z : List UInt8) (x : UInt8) (h : ∀ c ∈ a, c ≠ x) : Lib.cut (a ++ x :: z) [x] = (a, z, true) := by
  unfold Lib.cut
  rw [index_app a z x h, if_pos (by omega)]
  simp
theorem codesTo_ch (r : List UInt8) : ∀ c ∈ codesTo r, isDig c = true ∨ c = 44 := by
  induction r with
  | nil => intro c hc; cases hc
  | cons d r ih =>
    cases r with
    | nil => rw [codesTo_first]; intro c hc; exact .inl (decDigits_dig _ c hc)
    | cons e r =>
      have he : codesTo (d :: e :: r) = Lib.decDigits d.toNat ++ 44 :: codesTo (e :: r) := by
        unfold codesTo
        rw [List.map_cons, join_cons, List.map_cons, join_cons, List.map_cons, List.flatten_cons]
        simp
      rw [he]
      intro c hc
      rcases List.mem_append.1 hc with h | h
      · exact .inl (decDigits_dig _ c h)
      · rcases List.mem_cons.1 h with h | h
        · exact .inr h
        · exact ih c h
theorem split_codes : ∀ (r : List UInt8) (k : Nat), r ≠ [] → r.length ≤ k + 1 → Lib.splitK [44] 0 k (codesTo r) = r.map (fun c => Lib.decDigits c.toNat)
  | [], _, h, _ => absurd rfl h
  | [c], k, _, _ => by
    rw [codesTo_first]
    have := index_none (Lib.decDigits c.toNat) 44 (fun d hd e => by have := decDigits_dig _ d hd; rw [e] at this; cases this)
    cases k with
    | zero => rfl
    | succ k => unfold Lib.splitK; rw [this]; rfl
  | c :: d :: r, k, _, hk => by
    obtain ⟨k, rfl⟩ : ∃ j, k = j + 1 := ⟨k - 1, by simp at hk; omega⟩
    have he : codesTo (c :: d :: r) = Lib.decDigits c.toNat ++ 44 :: codesTo (d :: r) := by
      unfold codesTo
      rw [List.map_cons, join_cons, List.map_cons, join_cons, List.map_cons, List.flatten_cons]
      simp
    have hi := index_app (Lib.decDigits c.toNat) (codesTo (d :: r)) 44 (fun x hx e => by have := decDigits_dig _ x hx; rw [e] at this; cases this)
    rw [he]
    unfold Lib.splitK
    rw [hi, if_neg (by simp), List.map_cons]
    have ht : ((Lib.decDigits c.toNat).length : Int).toNat = (Lib.decDigits c.toNat).length := by omega
    rw [ht, Nat.add_zero, List.take_left]
    congr 1
    rw [show (Lib.decDigits c.toNat).length + [(44 : UInt8)].length = (Lib.decDigits c.toNat ++ [44]).length by simp]
    rw [show Lib.decDigits c.toNat ++ 44 :: codesTo (d :: r) = (Lib.decDigits c.toNat ++ [44]) ++ codesTo (d :: r) by simp, List.drop_left]
    exact split_codes (d :: r) k (by simp) (by simpa using hk)
theorem count_codes (r : List UInt8) (h : r ≠ []) : r.length ≤ (codesTo r).count 44 + 1 := by
  induction r with
  | nil => exact absurd rfl h
  | cons c r ih =>
    cases r with
    | nil => simp
    | cons d r =>
      have he : codesTo (c :: d :: r) = Lib.decDigits c.toNat ++ 44 :: codesTo (d :: r) := by
        unfold codesTo
        rw [List.map_cons, join_cons, List.map_cons, join_cons, List.map_cons, List.flatten_cons]
        simp
      have := ih (by simp)
      rw [he, List.count_append, List.count_cons_self]
      simp only [List.length_cons] at this ⊢
      omega
theorem atoi_one : ∀ a : Fin 10, Lib.atoiAll [48 + UInt8.ofNat a] = .ok ((a.val : Nat) : Int) := by decide +kernel
theorem atoi_two : ∀ a b : Fin 10, Lib.atoiAll [48 + UInt8.ofNat a, 48 + UInt8.ofNat b] = .ok ((10 * a.val + b.val : Nat) : Int) := by decide +kernel
theorem atoi_three : ∀ a b c : Fin 10, Lib.atoiAll [48 + UInt8.ofNat a, 48 + UInt8.ofNat b, 48 + UInt8.ofNat c] = .ok ((100 * a.val + 10 * b.val + c.val : Nat) : Int) := by decide +kernel
theorem digit_of (k : Nat) : UInt8.ofNat (48 + k) = 48 + UInt8.ofNat k := by
  apply UInt8.toNat_inj.1
  simp [UInt8.toNat_add, UInt8.toNat_ofNat']
theorem atoi_dec (n : Nat) (h : n < 1000) : Lib.atoiAll (Lib.decDigits n) = .ok (n : Int) := by
  by_cases h1 : n < 10
  · rw [decDigits_small h1, digit_of]
    exact atoi_one ⟨n, h1⟩
  · by_cases h2 : n < 100
    · rw [decDigits_big h1, decDigits_small (by omega), digit_of, digit_of]
      have := atoi_two ⟨n / 10, by omega⟩ ⟨n % 10, by omega⟩
      rw [show [48 + UInt8.ofNat (n / 10)] ++ [48 + UInt8.ofNat (n % 10)] = [48 + UInt8.ofNat (n / 10), 48 + UInt8.ofNat (n % 10)] from rfl, this]
      congr 1
      show ((10 * (n / 10) + n % 10 : Nat) : Int) = n
      omega
    · rw [decDigits_big h1, decDigits_big (by omega), decDigits_small (by omega), digit_of, digit_of, digit_of]
      have := atoi_three ⟨n / 10 / 10, by omega⟩ ⟨n / 10 % 10, by omega⟩ ⟨n % 10, by omega⟩
      rw [show [48 + UInt8.ofNat (n / 10 / 10)] ++ [48 + UInt8.ofNat (n / 10 % 10)] ++ [48 + UInt8.ofNat (n % 10)] = [48 + UInt8.ofNat (n / 10 / 10), 48 + UInt8.ofNat (n / 10 % 10), 48 + UInt8.ofNat (n % 10)] from rfl, this]
      congr 1
      show ((100 * (n / 10 / 10) + 10 * (n / 10 % 10) + n % 10 : Nat) : Int) = n
      omega
theorem byteI_code (c : UInt8) : byteI (atoiV (Lib.decDigits c.toNat)) = c := by
  have hlt := c.toNat_lt
  unfold atoiV
  rw [atoi_dec _ (by omega)]
  unfold byteI
  dsimp only
  rw [show ((c.toNat : Int) % 256).toNat = c.toNat by omega]
  simp
theorem bI_codes (r rest : List UInt8) (h : r ≠ []) : bI (codesTo r ++ 41 :: rest) = (r, rest) := by
  have hc := cut_app (codesTo r) rest 41 (fun c hc e => by
    rcases codesTo_ch r c hc with h1 | h1
    · rw [e] at h1; cases h1
    · rw [e] at h1; cases h1)
  unfold bI
  rw [hc]
  dsimp only
  have hw : (wordsB ⟨(codesTo r).toArray⟩).map (·.data.toList) = r.map (fun c => Lib.decDigits c.toNat) := by
    unfold wordsB
    rw [Lib.splitB_data]
    refine split_codes r _ h ?_
    show r.length ≤ Lib.count (codesTo r) [44] + 1
    rw [Lib.count_one]
    exact count_codes r h
  have e : (wordsB ⟨(codesTo r).toArray⟩).map (fun w => byteI (atoiV w.data.toList)) = ((wordsB ⟨(codesTo r).toArray⟩).map (·.data.toList)).map (fun l => byteI (atoiV l)) := by rw [List.map_map]; rfl
  rw [e, hw, List.map_map]
  have e2 : ((fun l => byteI (atoiV l)) ∘ fun c : UInt8 => Lib.decDigits c.toNat) = id := by
    funext c; exact byteI_code c
  rw [e2, List.map_id]

/-- The program's reading of parts. -/
def pI : Nat → List UInt8 → List UInt8 × List UInt8
  | 0, l => ([], l)
  | f + 1, l =>
    if [34].isPrefixOf l then (match qI (l.drop 1) with
      | none => ([], l)
      | some p => (match p.2 with | 95 :: r => (p.1 ++ (pI f r).1, (pI f r).2) | r => (p.1, r)))
    else if [36, 67, 40].isPrefixOf l then (match (bI (l.drop 3)).2 with | 95 :: r => ((bI (l.drop 3)).1 ++ (pI f r).1, (pI f r).2) | r => ((bI (l.drop 3)).1, r))
    else ([], l)
def pT (f : Nat) (p : List UInt8 × List UInt8) : List UInt8 × List UInt8 := match p.2 with
  | 95 :: r => (p.1 ++ (pI f r).1, (pI f r).2)
  | r => (p.1, r)
theorem pT_more (f : Nat) (a r : List UInt8) : pT f (a, 95 :: r) = (a ++ (pI f r).1, (pI f r).2) := rfl
theorem pT_stop (f : Nat) (a l : List UInt8) (h : ∀ r, l ≠ 95 :: r) : pT f (a, l) = (a, l) := by
  unfold pT
  dsimp only
  split
  · rename_i r; exact absurd rfl (h r)
  · rfl
theorem pI_q (f : Nat) (l : List UInt8) (p : List UInt8 × List UInt8) (h : [34].isPrefixOf l = true) (hp : qI (l.drop 1) = some p) : pI (f + 1) l = pT f p := by
  conv => lhs; unfold pI
  rw [if_pos h, hp]; rfl
theorem pI_x (f : Nat) (l : List UInt8) (h : [34].isPrefixOf l = true) (hp : qI (l.drop 1) = none) : pI (f + 1) l = ([], l) := by
  conv => lhs; unfold pI
  rw [if_pos h, hp]
theorem pI_c (f : Nat) (l : List UInt8) (h : [34].isPrefixOf l = false) (h2 : [36, 67, 40].isPrefixOf l = true) : pI (f + 1) l = pT f (bI (l.drop 3)) := by
  conv => lhs; unfold pI
  rw [h, if_neg (by decide), if_pos h2]; rfl
theorem pI_n (f : Nat) (l : List UInt8) (h : [34].isPrefixOf l = false) (h2 : [36, 67, 40].isPrefixOf l = false) : pI (f + 1) l = ([], l) := by
  conv => lhs; unfold pI
  rw [h, if_neg (by decide), h2, if_neg (by decide)]
theorem pI_runs (z : List UInt8) (hz34 : ∀ r, z ≠ 34 :: r) (hz95 : ∀ r, z ≠ 95 :: r) : ∀ (n : Nat) (l : List UInt8) (k f : Nat), l.length ≤ n → l ≠ [] → l.length ≤ k → l.length ≤ f → pI f (formP (runOf l) ++ (moreP k (runRest l) ++ z)) = (l, z)
  | 0, l, _, _, h, hl, _, _ => absurd (List.eq_nil_of_length_eq_zero (Nat.le_zero.1 h)) hl
  | n + 1, l, k, f, hn, hl, hk, hf => by
    have h1 := runRest_len l hl
    have h2 := runs_split l hl
    have hro : runOf l ≠ [] := by
      intro e
      rw [e, List.nil_append] at h2
      rw [h2] at h1; omega
    obtain ⟨f, rfl⟩ : ∃ g, f = g + 1 := ⟨f - 1, by have := List.length_pos_iff.2 hl; omega⟩
    have more : pT f (runOf l, moreP k (runRest l) ++ z) = (l, z) := by
      by_cases hn0 : runRest l = []
      · rw [hn0, moreP_nil, List.nil_append, pT_stop _ _ _ hz95]
        rw [hn0, List.append_nil] at h2
        rw [h2]
      · rw [moreP_step k _ hn0 (by omega), List.cons_append, pT_more, List.append_assoc, pI_runs z hz34 hz95 n (runRest l) k f (by omega) hn0 (by omega) (by omega), h2]
    rcases formP_first (runOf l) hro with e | e
    · have hq := qI_doubled (runOf l) (moreP k (runRest l) ++ z) (moreP_rest k _ z (by omega) 34 (by decide) hz34)
      rw [e, List.cons_append, List.append_assoc]
      show pI (f + 1) (34 :: (doubled (runOf l) ++ 34 :: (moreP k (runRest l) ++ z))) = (l, z)
      rw [pI_q f (34 :: (doubled (runOf l) ++ 34 :: (moreP k (runRest l) ++ z))) (runOf l, moreP k (runRest l) ++ z) rfl hq]
      exact more
    · have hc := bI_codes (runOf l) (moreP k (runRest l) ++ z) hro
      rw [e, List.cons_append, List.cons_append, List.cons_append, List.append_assoc]
      show pI (f + 1) (36 :: 67 :: 40 :: (codesTo (runOf l) ++ 41 :: (moreP k (runRest l) ++ z))) = (l, z)
      rw [pI_c _ _ rfl rfl]
      show pT f (bI (codesTo (runOf l) ++ 41 :: (moreP k (runRest l) ++ z))) = (l, z)
      rw [hc]
      exact more
/-- The program's reading. -/
def sI (l : List UInt8) : List UInt8 × List UInt8 := if 0 < (l.takeWhile numCh).length then (l.takeWhile numCh, l.dropWhile numCh) else pI (l.length + 1) l
theorem sI_plain (u z : List UInt8) (hz34 : ∀ r, z ≠ 34 :: r) (hz95 : ∀ r, z ≠ 95 :: r) (hzn : ∀ c r, z = c :: r → numCh c = false) : sI (plainP u ++ z) = (u, z) := by
  unfold sI
  cases hc : canonB u
  · by_cases h0 : u = []
    · subst h0
      have : plainP [] = [34, 34] := by unfold plainP; rw [hc]; rfl
      rw [this]
      show (if 0 < ((34 :: 34 :: z).takeWhile numCh).length then _ else pI ((34 :: 34 :: z).length + 1) (34 :: 34 :: z)) = ([], z)
      rw [List.takeWhile_cons, if_neg (show ¬ numCh 34 = true by decide), if_neg (by simp), pI_q _ _ ([], z) rfl (by show qI (34 :: z) = _; exact qI_end z hz34), pT_stop _ _ _ hz95]
    · have hl : u.length ≤ (plainP u ++ z).length + 1 := by
        have := congrArg List.length (runs_split u h0)
        rw [plainP_runs hc h0]
        have key : ∀ (n : Nat) (l : List UInt8) (k : Nat), l.length ≤ n → l.length ≤ k → l.length ≤ (moreP k l).length := by
          intro n
          induction n with
          | zero => intro l k h _; omega
          | succ n ih =>
            intro l k hn hk
            by_cases hl : l = []
            · subst hl; exact Nat.zero_le _
            · have h1 := runRest_len l hl
              have h2 := congrArg List.length (runs_split l hl)
              have h3 := ih (runRest l) k (by omega) (by omega)
              have hro : runOf l ≠ [] := by
                intro e; rw [e, List.length_append, List.length_nil] at h2; omega
              have h4 : (runOf l).length ≤ (formP (runOf l)).length := by
                rcases formP_first (runOf l) hro with e | e
                · rw [e]
                  have : ∀ m : List UInt8, m.length ≤ (doubled m).length := by
                    intro m
                    induction m with
                    | nil => exact Nat.le_refl _
                    | cons c m ihm =>
                      unfold doubled at ihm ⊢
                      rw [List.flatMap_cons, List.length_append, List.length_cons]
                      have : 1 ≤ (if c = 34 then [34, 34] else [c] : List UInt8).length := by split <;> simp
                      omega
                  have := this (runOf l)
                  simp only [List.length_cons, List.length_append, List.length_nil]; omega
                · rw [e]
                  have := codesTo_pos (runOf l)
                  simp only [List.length_cons, List.length_append, List.length_nil]; omega
              rw [moreP_step k l hl hk, List.length_cons, List.length_append]
              rw [List.length_append] at h2
              omega
        have h1 := runRest_len u h0
        have h3 := key u.length (runRest u) u.length (by omega) (by omega)
        have hro : runOf u ≠ [] := by
          intro e; rw [e, List.length_append, List.length_nil] at this; omega
        have h5 := key (runOf u).length.succ.pred (runOf u) (runOf u).length (by simp) (Nat.le_refl _)
        have h4 : (runOf u).length ≤ (formP (runOf u)).length := by
          rcases formP_first (runOf u) hro with e | e
          · rw [e]
            have : ∀ m : List UInt8, m.length ≤ (doubled m).length := by
              intro m
              induction m with
              | nil => exact Nat.le_refl _
              | cons c m ihm =>
                unfold doubled at ihm ⊢
                rw [List.flatMap_cons, List.length_append, List.length_cons]
                have : 1 ≤ (if c = 34 then [34, 34] else [c] : List UInt8).length := by split <;> simp
                omega
            have := this (runOf u)
            simp only [List.length_cons, List.length_append, List.length_nil]; omega
          · rw [e]
            have := codesTo_pos (runOf u)
            simp only [List.length_cons, List.length_append, List.length_nil]; omega
        rw [List.length_append] at this
        rw [List.length_append, List.length_append]
        omega
      have hr := pI_runs z hz34 hz95 u.length u u.length ((plainP u ++ z).length + 1) (Nat.le_refl _) h0 (Nat.le_refl _) hl
      have hp := plainP_runs hc h0
      have h1 := runRest_len u h0
      have h2 := congrArg List.length (runs_split u h0)
      have hro : runOf u ≠ [] := by
        intro e; rw [e, List.length_append, List.length_nil] at h2; omega
      have ht : (plainP u ++ z).takeWhile numCh = [] := by
        rw [hp]
        rcases formP_first (runOf u) hro with e | e
        · rw [e]; rfl
        · rw [e]; rfl
      rw [ht, if_neg (by simp)]
      conv => lhs; arg 2; rw [hp, List.append_assoc]
      exact hr
  · have hp : plainP u = u := by unfold plainP; rw [hc]; rfl
    have hu : u ≠ [] := fun e => by subst e; rw [canonB_nil] at hc; cases hc
    obtain ⟨h1, h2⟩ := takeWhile_all numCh z hzn u (canonB_ch u hc)
    rw [hp, h1, h2, if_pos (List.length_pos_iff.2 hu)]
end Go.Proofs.YtcjaaknnfohllaaGreatDoor

/- The reference's reader walked: more, quoted, digits, codes. -/
namespace Go.Proofs.YtcjaaknnfohllaaGreatDoor
open Go.RowKit

theorem within_set (w : World) (B o : Nat) (u : Value) : Within B (B + 1) w (w.setCell ⟨B, o, none⟩ u) :=
  ⟨rfl, rfl, rfl, by simp, fun k _ hd => Below.heap_setCell w ⟨B, o, none⟩ u k (show k ≠ B by omega)⟩
theorem within_drew (w : World) (lo hi : Nat) : Within lo hi w w.drew := Within.of_below (below_drewN' w 1)
theorem within_refl (w : World) (lo hi : Nat) : Within lo hi w w := Within.of_below (Below.refl _ _)

/-- A reader of the text T that stands at place p, in block B. -/
abbrev RdAt (w : World) (B : Nat) (T : ByteArray) (p : Nat) : Prop := Blk w B 66 #[.string T, .int .i64 (p : Int)]

theorem pre_eq (s p : List UInt8) (h : p.length ≤ s.length) : p.isPrefixOf s = (s.take p.length == p) := by
  rw [Bool.eq_iff_iff, List.isPrefixOf_iff_prefix, beq_iff_eq]
  constructor
  · intro h1; exact (List.prefix_iff_eq_take.1 h1).symm
  · intro h1; exact List.prefix_iff_eq_take.2 h1.symm
theorem pre_long (s p : List UInt8) (h : s.length < p.length) : p.isPrefixOf s = false := by
  rw [← Bool.not_eq_true, List.isPrefixOf_iff_prefix]
  intro h1
  have := h1.length_le
  omega

set_option maxHeartbeats 1000000 in
theorem l16Starts_any (s p : ByteArray) (hs : s.size ≤ 1048576) (hp : p.size ≤ 1048576) (w : World) : Calls Tryz.prog 95 #[.string s, .string p] w fun e w' => e = .returned (.bool (p.data.toList.isPrefixOf s.data.toList)) ∧ w = w' := by
  by_cases h : p.size ≤ s.size
  · have i1 : (p.size : Int) ≤ (s.size : Int) := by omega
    have i0 : (0 : Int) ≤ (p.size : Int) := by omega
    have HR := Lib.hid (show p.data.toList.isPrefixOf s.data.toList = ((s.extract 0 p.size).toList == p.toList) by
      rw [pre_eq _ _ (by rw [Array.length_toList, Array.length_toList]; exact h), ByteArray.toList_eq, ByteArray.toList_eq, bytes_pop]
      rw [Array.length_toList]; rfl)
    go_enter Tryz.func95, Tryz.ntmps95
    go_wp2_with fail
    go_ret
    exact ⟨by rw [HR.out]; rfl, rfl⟩
  · have i1 : ¬ (p.size : Int) ≤ (s.size : Int) := by omega
    have HR := Lib.hid (pre_long s.data.toList p.data.toList (by rw [Array.length_toList, Array.length_toList]; show s.size < p.size; omega))
    rw [HR.out]
    go_enter Tryz.func95, Tryz.ntmps95
    go_wp2_with fail
    go_ret
    exact ⟨rfl, rfl⟩

theorem drop_ext (T : ByteArray) (p : Nat) : (T.extract p T.size).data.toList = T.data.toList.drop p := by
  rw [ByteArray.data_extract, Array.toList_extract, List.extract_eq_take_drop, List.take_of_length_le]
  rw [List.length_drop, Array.length_toList]; exact Nat.le_refl _

set_option maxHeartbeats 4000000 in
theorem more_any (B : Nat) (T p : ByteArray) (a : Nat) (ha : a ≤ T.size) (hT : T.size ≤ 1048576) (hp : p.size ≤ 8) (w : World) (hB : RdAt w B T a) :
    Calls Tryz.prog 40 #[.pointer (some ⟨B, 0, none⟩), .string p] w fun e w' => e = .returned (.bool (p.data.toList.isPrefixOf (T.data.toList.drop a))) ∧ RdAt w' B T (if p.data.toList.isPrefixOf (T.data.toList.drop a) then a + p.size else a) ∧ Within B (B + 1) w w' := by
  have HS := Lib.hid (fun W => l16Starts_any (T.extract a T.size) p (by rw [ByteArray.size_extract]; omega) (by omega) W)
  have HD := Lib.hid (drop_ext T a)
  rw [HD.out] at HS
  have i0 : (0 : Int) ≤ (a : Int) := by omega
  have i1 : (a : Int) ≤ (T.size : Int) := by omega
  have HB := Lib.hid hB
  have HBd : RdAt w.drew B T a := hB
  have f := HBd.cell
  have z := HBd.frozen
  clear hB
  cases hc : p.data.toList.isPrefixOf (T.data.toList.drop a)
  · rw [hc] at HS
    clear hc
    go_enter Tryz.func40, Tryz.ntmps40
    go_wp2_with fail
    go_region_held3 (fun w' => ∀ i, w'.cell? ⟨B, i, none⟩ = (#[.string T, .int .i64 (a : Int)] : Array Value)[i]?)
      (first | exact HB.out.cell | exact f)
      (first | (go_at_call 95; refine (HS.out _).mono ?_; rintro e5 w5 ⟨rfl, rfl⟩))
    go_wp2_with fail
    go_ret
    exact ⟨rfl, HBd, within_drew _ _ _⟩
  · rw [hc] at HS
    clear hc
    go_enter Tryz.func40, Tryz.ntmps40
    go_wp2_with fail
    go_region_held3 (fun w' => ∀ i, w'.cell? ⟨B, i, none⟩ = (#[.string T, .int .i64 (a : Int)] : Array Value)[i]?)
      (first | exact HB.out.cell | exact f)
      (first | (go_at_call 95; refine (HS.out _).mono ?_; rintro e5 w5 ⟨rfl, rfl⟩))
    go_wp2_with fail
    go_ret
    exact ⟨rfl, HBd.set_ 1 _, (within_drew _ _ _).trans (within_set _ _ _ _)⟩

theorem OwnR.within {α : Type} {enc : α → Value} {w w' : World} {base lo hi : Nat} {t : TypeId} {v : Value} {xs : List α} (h : OwnR enc w base t v xs) (hw : Within lo hi w w') (hb : hi ≤ base) : OwnR enc w' base t v xs := by
  refine ⟨h.1, h.2.1, ?_⟩
  rcases h.2.2 with h2 | ⟨g, cap, cur, h1, hg, hc, r⟩
  · exact .inl h2
  · have hlt : g < w.heap.size := by
      rcases Nat.lt_or_ge g w.heap.size with h' | h'
      · exact h'
      · rw [Array.getElem?_eq_none h'] at hc; cases hc
    exact .inr ⟨g, cap, cur, h1, hg, (hw.block g hlt (.inr (by omega))).trans hc, r⟩
theorem Within.low {lo hi : Nat} {w w1 w2 : World} (h : Within lo hi w w1) (hb : Below w.heap.size w1 w2) : Within lo hi w w2 :=
  ⟨hb.os.trans h.os, hb.tape.trans h.tape, hb.output.trans h.output, Nat.le_trans h.size hb.size, fun k hk hd => (hb.block k hk).trans (h.block k hk hd)⟩
theorem Blk.within {w w' : World} {g lo hi : Nat} {t : TypeId} {cs : Array Value} (h : Blk w g t cs) (hw : Within lo hi w w') (hg : g < lo ∨ hi ≤ g) : Blk w' g t cs := (hw.block g h.lt hg).trans h

/-- Where the reader in block B stands. -/
def standsAt (w : World) (B : Nat) : Nat := match w.cell? ⟨B, 1, none⟩ with
  | some (.int _ n) => n.toNat
  | _ => 0
theorem standsAt_rd {w : World} {B : Nat} {T : ByteArray} {k : Nat} (h : RdAt w B T k) : standsAt w B = k := by
  unfold standsAt
  rw [h.cell 1]
  rfl
theorem drop_at (T : ByteArray) (k : Nat) (h : k < T.size) : T.data.toList.drop k = T[k] :: T.data.toList.drop (k + 1) := List.drop_eq_getElem_cons (by simpa using h)
theorem drop_len (T : ByteArray) (k : Nat) (r : List UInt8) (hk : k ≤ T.size) (h : T.data.toList.drop k = r) : k = T.size - r.length := by
  rw [← h, List.length_drop, Array.length_toList]
  show k = T.size - (T.size - k)
  omega
theorem one_pre (c : UInt8) (l : List UInt8) : [c].isPrefixOf l = true ↔ ∃ r, l = c :: r := by
  rw [List.isPrefixOf_iff_prefix]
  constructor
  · rintro ⟨r, e⟩; exact ⟨r, e.symm⟩
  · rintro ⟨r, e⟩; exact ⟨r, e.symm⟩

set_option maxHeartbeats 8000000 in
set_option maxRecDepth 100000 in
theorem quotedS_any (B : Nat) (T : ByteArray) (a : Nat) (ha : a ≤ T.size) (hT : T.size ≤ 1048576) (w : World) (hB : RdAt w B T a) :
    Calls Tryz.prog 96 #[.pointer (some ⟨B, 0, none⟩)] w fun e w' => e = .returned (.string ⟨(qS (T.data.toList.drop a)).1.toArray⟩) ∧ RdAt w' B T (T.size - (qS (T.data.toList.drop a)).2.length) ∧ Within B (B + 1) w w' := by
  have hBl := hB.lt
  have HB := Lib.hid hB
  generalize hQ : qS (T.data.toList.drop a) = Q at *
  have HQ := Lib.hid hQ; clear hQ
  go_enter Tryz.func96, Tryz.ntmps96
  go_wp2_with fail
  have hown0 : OwnR encB (w.alloc (.cells #[] 5)) w.heap.size 5 (.slice (some ⟨w.heap.size, 0, none⟩) 0 0) [] := OwnR.none_ _ _ _ (Nat.le_refl _)
  have HW0 := Lib.hid (show Within B (B + 1) w (w.alloc (.cells #[] 5)) from Within.of_below ((Below.refl _ _).alloc (Nat.le_refl _) _))
  have HB0 := Lib.hid (show RdAt (w.alloc (.cells #[] 5)) B T a from hB.alloc _)
  clear hB
  go_loopw [3] (fun v wr => ∃ (k : Nat) (b : List UInt8), k ≤ T.size ∧ RdAt wr B T k ∧ OwnR encB wr w.heap.size 5 v b ∧ b.length ≤ k ∧ b ++ (qS (T.data.toList.drop k)).1 = Q.1 ∧ (qS (T.data.toList.drop k)).2 = Q.2 ∧ Within B (B + 1) w wr) (fun _ wr => T.size - standsAt wr B)
  case atStart => exact ⟨a, [], ha, HB0.out, hown0, Nat.zero_le _, by rw [HQ.out]; rfl, by rw [HQ.out], HW0.out⟩
  case round =>
    clear hown0
    obtain ⟨k, b, hk, hR, hown, hbl, h1, h2, hw⟩ := hrel
    have H1 := Lib.hid h1; have H2 := Lib.hid h2; have HW := Lib.hid hw
    have hws := hw.size
    have HR := Lib.hid hR
    have HST := Lib.hid (standsAt_rd hR)
    clear h1 h2 hw
    have f := hR.cell
    by_cases hlt : k < T.size
    · have i1 : (k : Int) < (T.size : Int) := by omega
      have i0 : (0 : Int) ≤ (k : Int) := by omega
      have HDA := Lib.hid (drop_at T k hlt)
      go_wp2_with fail
      go_quiet (fail)
      have R1 : RdAt (wr.drewN nq) B T k := HR.out
      have own1 : OwnR encB (wr.drewN nq) w.heap.size 5 u3 b := hown
      have W1 : Within B (B + 1) w (wr.drewN nq) := HW.out.trans (Within.of_below (below_drewN' wr nq))
      have hs1 : w.heap.size ≤ (wr.drewN nq).heap.size := hws
      generalize wr.drewN nq = wa at *
      clear f hR hown
      have f := R1.cell
      go_wp2_with fail
      go_quiet (fail)
      have R2 : RdAt (wa.drewN nq) B T k := R1
      have own2 : OwnR encB (wa.drewN nq) w.heap.size 5 u3 b := own1
      have W2 : Within B (B + 1) w (wa.drewN nq) := W1.trans (Within.of_below (below_drewN' wa nq))
      have hs2 : w.heap.size ≤ (wa.drewN nq).heap.size := hs1
      generalize wa.drewN nq = wb at *
      clear f R1 own1 W1 hs1
      have f := R2.cell
      have z := R2.frozen
      have R3 := R2.set_ 1 (.int .i64 ((k : Int) + 1))
      have R3' : RdAt (wb.setCell ⟨B, 1, none⟩ (.int .i64 ((k : Int) + 1))) B T (k + 1) := R3
      have W3 := W2.trans (within_set wb B 1 (.int .i64 ((k : Int) + 1)))
      have own3 := own2.within (within_set wb B 1 (.int .i64 ((k : Int) + 1))) (by omega)
      have HR3 := Lib.hid R3'; have HW3 := Lib.hid W3; have HO3 := Lib.hid own3
      have hs3 : w.heap.size ≤ (wb.setCell ⟨B, 1, none⟩ (.int .i64 ((k : Int) + 1))).heap.size := W3.size
      clear R3 R3' W3 own3 R2 own2 W2 HR
      have hbl2 : b.length ≤ 1048576 := by omega
      by_cases h34 : T[k] = 34
      · have q34 : ((T[k].toNat : Int) == 34) = true := by rw [h34]; rfl
        have HM := Lib.hid (more_any B T ⟨#[34]⟩ (k + 1) hlt hT (by decide) _ HR3.out)
        have HE := Lib.hid h34
        cases hm : (⟨#[34]⟩ : ByteArray).data.toList.isPrefixOf (T.data.toList.drop (k + 1))
        · rw [hm, if_neg (by decide)] at HM
          have HN := Lib.hid (qS_end (T.data.toList.drop (k + 1)) (fun r e => by rw [(one_pre 34 _).2 ⟨r, e⟩] at hm; cases hm))
          clear hm h34
          go_wp2_with fail
          generalize wb.setCell ⟨B, 1, none⟩ (.int .i64 ((k : Int) + 1)) = wc at *
          refine HM.out.mono ?_; rintro e5 w5 ⟨rfl, hr5, hw5⟩
          have own5 := HO3.out.within hw5 (by omega)
          have hcv := convert_own own5
          have H1' := H1.out; have H2' := H2.out
          rw [HDA.out, HE.out, HN.out] at H1' H2'
          have HF1 := Lib.hid (show b = Q.1 by rw [← H1']; exact (List.append_nil b).symm)
          have HF2 := Lib.hid (drop_len T (k + 1) Q.2 hlt H2')
          clear H1' H2' own5
          go_wp2_with fail
          go_ret
          exact ⟨by rw [← HF1.out]; rfl, by rw [← HF2.out]; exact hr5, HW3.out.trans hw5⟩
        · rw [hm, if_pos rfl] at HM
          obtain ⟨r, hr⟩ := (one_pre 34 _).1 hm
          have hk2 : k + 1 < T.size := by
            rcases Nat.lt_or_ge (k + 1) T.size with h' | h'
            · exact h'
            · rw [List.drop_of_length_le (by rw [Array.length_toList]; exact h')] at hr; cases hr
          have hr2 : r = T.data.toList.drop (k + 2) := by
            have := drop_at T (k + 1) hk2
            rw [hr] at this
            injection this
          have HN := Lib.hid (show qS (T.data.toList.drop k) = (34 :: (qS (T.data.toList.drop (k + 2))).1, (qS (T.data.toList.drop (k + 2))).2) by rw [HDA.out, HE.out, hr, qS_two, hr2])
          clear hm h34 hr hr2
          go_wp2_with fail
          generalize wb.setCell ⟨B, 1, none⟩ (.int .i64 ((k : Int) + 1)) = wc at *
          refine HM.out.mono ?_; rintro e5 w5 ⟨rfl, hr5, hw5⟩
          have own5 := HO3.out.within hw5 (by omega)
          have hs5 := Nat.le_trans hs3 hw5.size
          have HR5 := Lib.hid (show RdAt w5 B T (k + 2) from hr5)
          have HW5 := Lib.hid (HW3.out.trans hw5)
          clear hr5 hw5
          go_wp2_with (first
            | fail
            | (at_builtin; refine wpList_app1 (enc := encB) rfl (.tmp 42) (.tmp 44) 102 5 rfl Tryz.underlying102 rfl (by omega) (fun _ => rfl) infoByte w5 w.heap.size _ b (T[k]) rfl own5 rfl (by omega) hs5 ?_; intro v6 w6 own6 hb6))
          have hr6 : RdAt w6 B T (k + 2) := HR5.out.below hb6 hBl
          go_roundw
          case rel => exact ⟨k + 2, b ++ [T[k]], by omega, hr6, own6, by rw [List.length_append]; simp only [List.length_cons, List.length_nil]; omega, by rw [← H1.out, HN.out, HE.out, List.append_assoc]; rfl, by rw [← H2.out, HN.out], HW5.out.low hb6⟩
          case measure => rw [standsAt_rd hr6, HST.out]; omega
      · have q34 : ((T[k].toNat : Int) == 34) = false := by rw [beq_eq_false_iff_ne]; exact fun e => h34 (u8_eq (by have : T[k].toNat = 34 := (by omega); rw [this]; rfl))
        have HN := Lib.hid (show qS (T.data.toList.drop k) = (T[k] :: (qS (T.data.toList.drop (k + 1))).1, (qS (T.data.toList.drop (k + 1))).2) by rw [HDA.out, qS_plain _ _ h34])
        clear h34
        go_upto_region 7 with fail
        generalize wb.setCell ⟨B, 1, none⟩ (.int .i64 ((k : Int) + 1)) = wc at *
        go_wp2_with (first
          | fail
          | (at_builtin; refine wpList_app1 (enc := encB) rfl (.tmp 42) (.tmp 44) 102 5 rfl Tryz.underlying102 rfl (by omega) (fun _ => rfl) infoByte wc w.heap.size _ b (T[k]) rfl HO3.out rfl (by omega) hs3 ?_; intro v6 w6 own6 hb6))
        have hr6 : RdAt w6 B T (k + 1) := HR3.out.below hb6 hBl
        go_roundw
        case rel => exact ⟨k + 1, b ++ [T[k]], by omega, hr6, own6, by rw [List.length_append]; simp only [List.length_cons, List.length_nil]; omega, by rw [← H1.out, HN.out, List.append_assoc]; rfl, by rw [← H2.out, HN.out], HW3.out.low hb6⟩
        case measure => rw [standsAt_rd hr6, HST.out]; omega
    · obtain rfl : k = T.size := by omega
      have i1 : ¬ (T.size : Int) < (T.size : Int) := by omega
      have hz : qS (T.data.toList.drop T.size) = ([], []) := by rw [List.drop_of_length_le (by rw [Array.length_toList]; exact Nat.le_refl _)]; unfold qS; rfl
      have H1' := H1.out; have H2' := H2.out
      rw [hz] at H1' H2'
      have HF1 := Lib.hid (show b = Q.1 by rw [← H1']; exact (List.append_nil b).symm)
      have HF2 := Lib.hid (show T.size = T.size - Q.2.length by rw [← H2']; exact (Nat.sub_zero _).symm)
      clear H1' H2' hz
      go_wp2_with fail
      go_quiet (fail)
      have own1 : OwnR encB (wr.drewN nq) w.heap.size 5 u3 b := hown
      have W1 : Within B (B + 1) w (wr.drewN nq) := HW.out.trans (Within.of_below (below_drewN' wr nq))
      have R1 : RdAt (wr.drewN nq) B T T.size := HR.out
      have hcv := convert_own own1
      go_wp2_with fail
      go_ret
      exact ⟨by rw [← HF1.out]; rfl, by rw [← HF2.out]; exact R1, W1⟩
end Go.Proofs.YtcjaaknnfohllaaGreatDoor
