/- Reading a plain form: the reference's reader and the program's, as plain functions, and that both read back what the plain form says. -/
import Derived.Test.YtfibjcaidnofmaaGreatDoorJoinITAm
namespace Go.Proofs.YtfibjcaidnofmaaGreatDoor

def numCh (c : UInt8) : Bool := isDig c || c == 45 || c == 46

/-- What stands behind a double quote: the reference's reading. -/
def qS : List UInt8 → List UInt8 × List UInt8
  | [] => ([], [])
  | [c] => if c = 34 then ([], []) else ([c], [])
  | c :: d :: r => if c = 34 then (if d = 34 then (34 :: (qS r).1, (qS r).2) else ([], d :: r)) else (c :: (qS (d :: r)).1, (qS (d :: r)).2)
/-- The program's: none where no quote ends it. -/
def qI : List UInt8 → Option (List UInt8 × List UInt8)
  | [] => none
  | [c] => if c = 34 then some ([], []) else none
  | c :: d :: r => if c = 34 then (if d = 34 then (qI r).map (fun p => (34 :: p.1, p.2)) else some ([], d :: r)) else (qI (d :: r)).map (fun p => (c :: p.1, p.2))
theorem qS_plain (c : UInt8) (l : List UInt8) (h : c ≠ 34) : qS (c :: l) = (c :: (qS l).1, (qS l).2) := by
  cases l with
  | nil => unfold qS; rw [if_neg h]
  | cons d r => conv => lhs; unfold qS
                rw [if_neg h]
theorem qS_two (r : List UInt8) : qS (34 :: 34 :: r) = (34 :: (qS r).1, (qS r).2) := by
  conv => lhs; unfold qS
  rw [if_pos rfl, if_pos rfl]
theorem qS_end (l : List UInt8) (h : ∀ r, l ≠ 34 :: r) : qS (34 :: l) = ([], l) := by
  cases l with
  | nil => unfold qS; rw [if_pos rfl]
  | cons d r =>
    have hd : d ≠ 34 := fun e => h r (by rw [e])
    conv => lhs; unfold qS
    rw [if_pos rfl, if_neg hd]
theorem qI_plain (c : UInt8) (l : List UInt8) (h : c ≠ 34) : qI (c :: l) = (qI l).map (fun p => (c :: p.1, p.2)) := by
  cases l with
  | nil => unfold qI; rw [if_neg h]; rfl
  | cons d r => conv => lhs; unfold qI
                rw [if_neg h]
theorem qI_two (r : List UInt8) : qI (34 :: 34 :: r) = (qI r).map (fun p => (34 :: p.1, p.2)) := by
  conv => lhs; unfold qI
  rw [if_pos rfl, if_pos rfl]
theorem qI_end (l : List UInt8) (h : ∀ r, l ≠ 34 :: r) : qI (34 :: l) = some ([], l) := by
  cases l with
  | nil => unfold qI; rw [if_pos rfl]
  | cons d r =>
    have hd : d ≠ 34 := fun e => h r (by rw [e])
    conv => lhs; unfold qI
    rw [if_pos rfl, if_neg hd]
theorem qS_doubled (r rest : List UInt8) (h : ∀ z, rest ≠ 34 :: z) : qS (doubled r ++ 34 :: rest) = (r, rest) := by
  induction r with
  | nil => exact qS_end rest h
  | cons c r ih =>
    by_cases hc : c = 34
    · subst hc
      have e : doubled (34 :: r) = 34 :: 34 :: doubled r := by unfold doubled; rw [List.flatMap_cons]; rfl
      rw [e, List.cons_append, List.cons_append, qS_two, ih]
    · have e : doubled (c :: r) = c :: doubled r := by unfold doubled; rw [List.flatMap_cons, if_neg hc]; rfl
      rw [e, List.cons_append, qS_plain c _ hc, ih]
theorem qI_doubled (r rest : List UInt8) (h : ∀ z, rest ≠ 34 :: z) : qI (doubled r ++ 34 :: rest) = some (r, rest) := by
  induction r with
  | nil => exact qI_end rest h
  | cons c r ih =>
    by_cases hc : c = 34
    · subst hc
      have e : doubled (34 :: r) = 34 :: 34 :: doubled r := by unfold doubled; rw [List.flatMap_cons]; rfl
      rw [e, List.cons_append, List.cons_append, qI_two, ih]; rfl
    · have e : doubled (c :: r) = c :: doubled r := by unfold doubled; rw [List.flatMap_cons, if_neg hc]; rfl
      rw [e, List.cons_append, qI_plain c _ hc, ih]; rfl
/-- A number of at most k digits. -/
def dS : Nat → Nat → List UInt8 → Nat × List UInt8
  | 0, n, l => (n, l)
  | _ + 1, n, [] => (n, [])
  | k + 1, n, c :: l => if isDig c then dS k (10 * n + dg c) l else (n, c :: l)
theorem dS_rest : ∀ (k n : Nat) (l : List UInt8), (dS k n l).2.length ≤ l.length
  | 0, _, _ => Nat.le_refl _
  | _ + 1, _, [] => Nat.le_refl _
  | k + 1, n, c :: l => by
    unfold dS
    split
    · have := dS_rest k (10 * n + dg c) l; rw [List.length_cons]; omega
    · exact Nat.le_refl _
theorem dS_digits (rest : List UInt8) (hr : ∀ c z, rest = c :: z → isDig c = false) : ∀ (k n : Nat) (l : List UInt8), (∀ c ∈ l, isDig c = true) → l.length ≤ k → dS k n (l ++ rest) = (valFrom n l, rest)
  | 0, n, [], _, _ => rfl
  | 0, _, _ :: _, _, h => absurd h (by simp)
  | k + 1, n, [], _, _ => by
    rw [List.nil_append, valFrom_nil]
    cases rest with
    | nil => rfl
    | cons c z => unfold dS; rw [hr c z rfl]; rfl
  | k + 1, n, c :: l, hd, hl => by
    rw [List.cons_append]
    unfold dS
    rw [hd c (List.mem_cons_self ..), if_pos rfl, valFrom_cons]
    exact dS_digits rest hr k _ l (fun x hx => hd x (List.mem_cons_of_mem _ hx)) (by simpa using hl)
/-- Numbers with commas between them, and the parenthesis behind. -/
def cS : Nat → List UInt8 → List UInt8 × List UInt8
  | 0, l => ([], l)
  | f + 1, l => match (dS 3 0 l).2 with
    | 44 :: r => (UInt8.ofNat (dS 3 0 l).1 :: (cS f r).1, (cS f r).2)
    | 41 :: r => ([UInt8.ofNat (dS 3 0 l).1], r)
    | r => ([UInt8.ofNat (dS 3 0 l).1], r)
theorem cS_comma (f : Nat) (l r : List UInt8) (h : (dS 3 0 l).2 = 44 :: r) : cS (f + 1) l = (UInt8.ofNat (dS 3 0 l).1 :: (cS f r).1, (cS f r).2) := by
  conv => lhs; unfold cS
  rw [h]
  rfl
theorem cS_close (f : Nat) (l r : List UInt8) (h : (dS 3 0 l).2 = 41 :: r) : cS (f + 1) l = ([UInt8.ofNat (dS 3 0 l).1], r) := by
  conv => lhs; unfold cS
  rw [h]
  rfl
theorem cS_stop (f : Nat) (l : List UInt8) (h : ∀ r, (dS 3 0 l).2 ≠ 44 :: r) (h2 : ∀ r, (dS 3 0 l).2 ≠ 41 :: r) : cS (f + 1) l = ([UInt8.ofNat (dS 3 0 l).1], (dS 3 0 l).2) := by
  conv => lhs; unfold cS
  split
  · rename_i r e; exact absurd e (h r)
  · rename_i r e; exact absurd e (h2 r)
  · rfl
theorem dec_three (c : UInt8) : (Lib.decDigits c.toNat).length ≤ 3 := decDigits_len 2 c.toNat (by have := c.toNat_lt; omega)
theorem cS_codes (rest : List UInt8) : ∀ (r : List UInt8), r ≠ [] → ∀ f, r.length ≤ f → cS f (codesTo r ++ 41 :: rest) = (r, rest)
  | [], h, _, _ => absurd rfl h
  | [c], _, f, hf => by
    obtain ⟨f, rfl⟩ : ∃ g, f = g + 1 := ⟨f - 1, by simp at hf; omega⟩
    have h := dS_digits (41 :: rest) (fun c z e => by injection e with e1 _; rw [← e1]; rfl) 3 0 (Lib.decDigits c.toNat) (decDigits_dig _) (dec_three c)
    rw [decDigits_val] at h
    rw [codesTo_first, cS_close f _ rest (by rw [h]), h]
    simp
  | c :: d :: r, _, f, hf => by
    obtain ⟨f, rfl⟩ : ∃ g, f = g + 1 := ⟨f - 1, by simp at hf; omega⟩
    have e : codesTo (c :: d :: r) = Lib.decDigits c.toNat ++ 44 :: codesTo (d :: r) := by
      unfold codesTo
      rw [List.map_cons, join_cons, List.map_cons, join_cons, List.map_cons, List.flatten_cons]
      simp
    have h := dS_digits (44 :: (codesTo (d :: r) ++ 41 :: rest)) (fun c z e => by injection e with e1 _; rw [← e1]; rfl) 3 0 (Lib.decDigits c.toNat) (decDigits_dig _) (dec_three c)
    rw [decDigits_val] at h
    have ih := cS_codes rest (d :: r) (by simp) f (by simpa using hf)
    rw [e, List.append_assoc, List.cons_append, cS_comma f _ (codesTo (d :: r) ++ 41 :: rest) (by rw [h]), h, ih]
    simp

/-- A plain form, as far as there is one: the reference's reading, and what is left. -/
def tS : Nat → List UInt8 → List UInt8 × List UInt8
  | 0, l => ([], l)
  | f + 1, l =>
    if [34].isPrefixOf l then (match (qS (l.drop 1)).2 with | 95 :: r => ((qS (l.drop 1)).1 ++ (tS f r).1, (tS f r).2) | r => ((qS (l.drop 1)).1, r))
    else if [36, 67, 40].isPrefixOf l then (match (cS l.length (l.drop 3)).2 with | 95 :: r => ((cS l.length (l.drop 3)).1 ++ (tS f r).1, (tS f r).2) | r => ((cS l.length (l.drop 3)).1, r))
    else (l.takeWhile numCh, l.dropWhile numCh)
/-- Behind a part: an underline and more, or the end. -/
def tT (f : Nat) (p : List UInt8 × List UInt8) : List UInt8 × List UInt8 := match p.2 with
  | 95 :: r => (p.1 ++ (tS f r).1, (tS f r).2)
  | r => (p.1, r)
theorem tT_more (f : Nat) (a r : List UInt8) : tT f (a, 95 :: r) = (a ++ (tS f r).1, (tS f r).2) := rfl
theorem tT_stop (f : Nat) (a l : List UInt8) (h : ∀ r, l ≠ 95 :: r) : tT f (a, l) = (a, l) := by
  unfold tT
  dsimp only
  split
  · rename_i r; exact absurd rfl (h r)
  · rfl
theorem tS_q (f : Nat) (l : List UInt8) (h : [34].isPrefixOf l = true) : tS (f + 1) l = tT f (qS (l.drop 1)) := by
  conv => lhs; unfold tS
  rw [if_pos h]; rfl
theorem tS_c (f : Nat) (l : List UInt8) (h : [34].isPrefixOf l = false) (h2 : [36, 67, 40].isPrefixOf l = true) : tS (f + 1) l = tT f (cS l.length (l.drop 3)) := by
  conv => lhs; unfold tS
  rw [h, if_neg (by decide), if_pos h2]; rfl
theorem tS_n (f : Nat) (l : List UInt8) (h : [34].isPrefixOf l = false) (h2 : [36, 67, 40].isPrefixOf l = false) : tS (f + 1) l = (l.takeWhile numCh, l.dropWhile numCh) := by
  conv => lhs; unfold tS
  rw [h, if_neg (by decide), h2, if_neg (by decide)]
theorem formP_first (l : List UInt8) (h : l ≠ []) : formP l = 34 :: (doubled l ++ [34]) ∨ formP l = 36 :: 67 :: 40 :: (codesTo l ++ [41]) := by
  cases l with
  | nil => exact absurd rfl h
  | cons c r =>
    rw [show formP (c :: r) = if showsC c then quoteP (c :: r) else codesP (c :: r) from rfl]
    split
    · left; exact quoteP_eq _
    · right; exact codesP_eq _
theorem codesTo_pos (r : List UInt8) : r.length ≤ (codesTo r).length := by
  induction r with
  | nil => exact Nat.zero_le _
  | cons c r ih =>
    have h1 := decDigits_ge 0 c.toNat
    cases r with
    | nil =>
      rw [codesTo_first]
      by_cases h : 1 ≤ c.toNat
      · exact h1 (by omega)
      · rw [decDigits_small (by omega)]; exact Nat.le_refl _
    | cons d r =>
      have e : codesTo (c :: d :: r) = Lib.decDigits c.toNat ++ 44 :: codesTo (d :: r) := by
        unfold codesTo
        rw [List.map_cons, join_cons, List.map_cons, join_cons, List.map_cons, List.flatten_cons]
        simp
      rw [e]
      simp only [List.length_append, List.length_cons] at ih ⊢
      omega
theorem moreP_rest (k : Nat) (l z : List UInt8) (hk : l.length ≤ k) (c : UInt8) (hc : c ≠ 95) (hz : ∀ r, z ≠ c :: r) : ∀ r, moreP k l ++ z ≠ c :: r := by
  intro r e
  by_cases h : l = []
  · subst h; rw [moreP_nil, List.nil_append] at e; exact hz r e
  · rw [moreP_step k l h hk, List.cons_append] at e
    injection e with e1 _
    exact hc e1.symm
/-- The forms of the runs, read. -/
theorem tS_runs (z : List UInt8) (hz34 : ∀ r, z ≠ 34 :: r) (hz95 : ∀ r, z ≠ 95 :: r) : ∀ (n : Nat) (l : List UInt8) (k f : Nat), l.length ≤ n → l ≠ [] → l.length ≤ k → l.length ≤ f → tS f (formP (runOf l) ++ (moreP k (runRest l) ++ z)) = (l, z)
  | 0, l, _, _, h, hl, _, _ => absurd (List.eq_nil_of_length_eq_zero (Nat.le_zero.1 h)) hl
  | n + 1, l, k, f, hn, hl, hk, hf => by
    have h1 := runRest_len l hl
    have h2 := runs_split l hl
    have hro : runOf l ≠ [] := by
      intro e
      rw [e, List.nil_append] at h2
      rw [h2] at h1; omega
    obtain ⟨f, rfl⟩ : ∃ g, f = g + 1 := ⟨f - 1, by have := List.length_pos_iff.2 hl; omega⟩
    have more : tT f (runOf l, moreP k (runRest l) ++ z) = (l, z) := by
      by_cases hn0 : runRest l = []
      · rw [hn0, moreP_nil, List.nil_append, tT_stop _ _ _ hz95]
        rw [hn0, List.append_nil] at h2
        rw [h2]
      · rw [moreP_step k _ hn0 (by omega), List.cons_append, tT_more, List.append_assoc, tS_runs z hz34 hz95 n (runRest l) k f (by omega) hn0 (by omega) (by omega), h2]
    rcases formP_first (runOf l) hro with e | e
    · have hq := qS_doubled (runOf l) (moreP k (runRest l) ++ z) (moreP_rest k _ z (by omega) 34 (by decide) hz34)
      rw [e, List.cons_append, List.append_assoc]
      show tS (f + 1) (34 :: (doubled (runOf l) ++ 34 :: (moreP k (runRest l) ++ z))) = (l, z)
      rw [tS_q _ _ rfl]
      show tT f (qS (doubled (runOf l) ++ 34 :: (moreP k (runRest l) ++ z))) = (l, z)
      rw [hq]
      exact more
    · have hc := cS_codes (moreP k (runRest l) ++ z) (runOf l) hro (36 :: 67 :: 40 :: (codesTo (runOf l) ++ 41 :: (moreP k (runRest l) ++ z))).length (by have := codesTo_pos (runOf l); simp only [List.length_cons, List.length_append]; omega)
      rw [e, List.cons_append, List.cons_append, List.cons_append, List.append_assoc]
      show tS (f + 1) (36 :: 67 :: 40 :: (codesTo (runOf l) ++ 41 :: (moreP k (runRest l) ++ z))) = (l, z)
      rw [tS_c _ _ rfl rfl]
      show tT f (cS (36 :: 67 :: 40 :: (codesTo (runOf l) ++ 41 :: (moreP k (runRest l) ++ z))).length (codesTo (runOf l) ++ 41 :: (moreP k (runRest l) ++ z))) = (l, z)
      rw [hc]
      exact more
theorem trimZ_sub (l : List UInt8) : ∀ c ∈ trimZ l, c ∈ l := by
  intro c hc
  unfold trimZ at hc
  rw [List.mem_reverse] at hc
  exact List.mem_reverse.1 ((List.dropWhile_sublist _).subset hc)
theorem numText_ch (n : Int) : ∀ c ∈ numText n, numCh c = true := by
  have hd : ∀ c, isDig c = true → numCh c = true := fun c h => by unfold numCh; rw [h]; rfl
  have hw : ∀ k, ∀ c ∈ wholeT k, numCh c = true := by
    intro k c hc
    unfold wholeT at hc
    split at hc
    · cases hc
    · exact hd c (decDigits_dig k c hc)
  have hf : ∀ r, ∀ c ∈ fracT r, numCh c = true := by
    intro r c hc
    unfold fracT at hc
    split at hc
    · cases hc
    · rcases List.mem_cons.1 hc with h | h
      · rw [h]; rfl
      · exact hd c (decDigits_dig _ c (List.mem_of_mem_drop (trimZ_sub _ c h)))
  have ha : ∀ a, ∀ c ∈ absT a, numCh c = true := by
    intro a c hc
    unfold absT at hc
    rcases List.mem_append.1 hc with h | h
    · exact hw _ c h
    · exact hf _ c h
  intro c hc
  unfold numText at hc
  split at hc
  · rw [List.mem_singleton.1 hc]; rfl
  · split at hc
    · rcases List.mem_cons.1 hc with h | h
      · rw [h]; rfl
      · exact ha _ c h
    · exact ha _ c hc
theorem canonB_ch (l : List UInt8) (h : canonB l = true) : ∀ c ∈ l, numCh c = true := by
  unfold canonB at h
  have := of_decide_eq_true h
  intro c hc
  rw [← this] at hc
  exact numText_ch _ c hc
theorem takeWhile_all (p : UInt8 → Bool) (z : List UInt8) (hz : ∀ c r, z = c :: r → p c = false) : ∀ l : List UInt8, (∀ c ∈ l, p c = true) → (l ++ z).takeWhile p = l ∧ (l ++ z).dropWhile p = z
  | [], _ => by
    cases z with
    | nil => exact ⟨rfl, rfl⟩
    | cons c r =>
      have := hz c r rfl
      rw [List.nil_append, List.takeWhile_cons, List.dropWhile_cons, this]
      exact ⟨rfl, rfl⟩
  | c :: l, h => by
    obtain ⟨h1, h2⟩ := takeWhile_all p z hz l (fun x hx => h x (List.mem_cons_of_mem _ hx))
    rw [List.cons_append, List.takeWhile_cons, List.dropWhile_cons, h c (List.mem_cons_self ..)]
    exact ⟨by rw [if_pos rfl, h1], by rw [if_pos rfl, h2]⟩
/-- What the reference reads of a plain form: the text. -/
theorem tS_plain (u z : List UInt8) (f : Nat) (hf : u.length < f) (hz34 : ∀ r, z ≠ 34 :: r) (hz95 : ∀ r, z ≠ 95 :: r) (hzn : ∀ c r, z = c :: r → numCh c = false) : tS f (plainP u ++ z) = (u, z) := by
  obtain ⟨f, rfl⟩ : ∃ g, f = g + 1 := ⟨f - 1, by omega⟩
  cases hc : canonB u
  · by_cases h0 : u = []
    · subst h0
      have : plainP [] = [34, 34] := by unfold plainP; rw [hc]; rfl
      rw [this]
      show tS (f + 1) (34 :: 34 :: z) = ([], z)
      rw [tS_q _ _ rfl]
      show tT f (qS (34 :: z)) = ([], z)
      rw [qS_end z hz34, tT_stop _ _ _ hz95]
    · rw [plainP_runs hc h0, List.append_assoc]
      exact tS_runs z hz34 hz95 u.length u u.length (f + 1) (Nat.le_refl _) h0 (Nat.le_refl _) (by omega)
  · have hp : plainP u = u := by unfold plainP; rw [hc]; rfl
    have hu : u ≠ [] := fun e => by subst e; rw [canonB_nil] at hc; cases hc
    have hch := canonB_ch u hc
    rw [hp]
    have h34 : ∀ c : UInt8, numCh c = false → ∀ p, [c].isPrefixOf (u ++ p) = false := by
      intro c hcc p
      cases u with
      | nil => exact absurd rfl hu
      | cons d r =>
        have hd := hch d (List.mem_cons_self ..)
        have : c ≠ d := fun e => by rw [e, hd] at hcc; cases hcc
        rw [List.cons_append, List.isPrefixOf, beq_eq_false_iff_ne.2 this]; rfl
    have h36 : [36, 67, 40].isPrefixOf (u ++ z) = false := by
      cases u with
      | nil => exact absurd rfl hu
      | cons d r =>
        have hd := hch d (List.mem_cons_self ..)
        have : (36 : UInt8) ≠ d := fun e => by rw [← e] at hd; cases hd
        rw [List.cons_append, List.isPrefixOf, beq_eq_false_iff_ne.2 this]; rfl
    obtain ⟨h1, h2⟩ := takeWhile_all numCh z hzn u hch
    rw [tS_n f _ (h34 34 rfl z) h36, h1, h2]
end Go.Proofs.YtfibjcaidnofmaaGreatDoor

