/- Reading a plain form: the reference's reader and the program's, as plain functions, and that both read back what the plain form says. -/
import Derived.Test.YtfibjcaidnofmaaGreatDoorJoinEOAl
namespace Go.Proofs.YtfibjcaidnofmaaGreatDoor

def numCh (c : UInt8) : Bool := isDig c || c == 45 || c == 46

/-- What stands behind a double quote: the reference's reading. -/
def qS : List UInt8 → List UInt8 × List UInt8
  | [] => ([], [])
  | [c] => if c = 34 then ([], []) else ([c], [])
  | c :: d :: r => if c = 34 then (if d = 34 then (34 :: (qS r).1, (qS r).2) else ([], d :: r)) else (c :: (qS (d :: r)).1, (qS (d :: r)).2)
/-- The program's: none where no quote ends it. -/
def qI : List UInt8 → Option (List UInt8 × List UInt8)
  | [] => none
  | [c] => if c = 34 then some ([], []) else none
  | c :: d :: r => if c = 34 then (if d = 34 then (qI r).map (fun p => (34 :: p.1, p.2)) else some ([], d :: r)) else (qI (d :: r)).map (fun p => (c :: p.1, p.2))
theorem qS_plain (c : UInt8) (l : List UInt8) (h : c ≠ 34) : qS (c :: l) = (c :: (qS l).1, (qS l).2) := by
  cases l with
  | nil => unfold qS; rw [if_neg h]
  | cons d r => conv => lhs; unfold qS
                rw [if_neg h]
theorem qS_two (r : List UInt8) : qS (34 :: 34 :: r) = (34 :: (qS r).1, (qS r).2) := by
  conv => lhs; unfold qS
  rw [if_pos rfl, if_pos rfl]
theorem qS_end (l : List UInt8) (h : ∀ r, l ≠ 34 :: r) : qS (34 :: l) = ([], l) := by
  cases l with
  | nil => unfold qS; rw [if_pos rfl]
  | cons d r =>
    have hd : d ≠ 34 := fun e => h r (by rw [e])
    conv => lhs; unfold qS
    rw [if_pos rfl, if_neg hd]
theorem qI_plain (c : UInt8) (l : List UInt8) (h : c ≠ 34) : qI (c :: l) = (qI l).map (fun p => (c :: p.1, p.2)) := by
  cases l with
  | nil => unfold qI; rw [if_neg h]; rfl
  | cons d r => conv => lhs; unfold qI
                rw [if_neg h]
theorem qI_two (r : List UInt8) : qI (34 :: 34 :: r) = (qI r).map (fun p => (34 :: p.1, p.2)) := by
  conv => lhs; unfold qI
  rw [if_pos rfl, if_pos rfl]
theorem qI_end (l : List UInt8) (h : ∀ r, l ≠ 34 :: r) : qI (34 :: l) = some ([], l) := by
  cases l with
  | nil => unfold qI; rw [if_pos rfl]
  | cons d r =>
    have hd : d ≠ 34 := fun e => h r (by rw [e])
    conv => lhs; unfold qI
    rw [if_pos rfl, if_neg hd]
theorem qI_doubled (r rest : List UInt8) (h : ∀ z, rest ≠ 34 :: z) : qI (doubled r ++ 34 :: rest) = some (r, rest) := by
  induction r with
  | nil => exact qI_end rest h
  | cons c r ih =>
    by_cases hc : c = 34
    · subst hc
      have e : doubled (34 :: r) = 34 :: 34 :: doubled r := by unfold doubled; rw [List.flatMap_cons]; rfl
      rw [e, List.cons_append, List.cons_append, qI_two, ih]; rfl
    · have e : doubled (c :: r) = c :: doubled r := by unfold doubled; rw [List.flatMap_cons, if_neg hc]; rfl
      rw [e, List.cons_append, qI_plain c _ hc, ih]; rfl
theorem formP_first (l : List UInt8) (h : l ≠ []) : formP l = 34 :: (doubled l ++ [34]) ∨ formP l = 36 :: 67 :: 40 :: (codesTo l ++ [41]) := by
  cases l with
  | nil => exact absurd rfl h
  | cons c r =>
    rw [show formP (c :: r) = if showsC c then quoteP (c :: r) else codesP (c :: r) from rfl]
    split
    · left; exact quoteP_eq _
    · right; exact codesP_eq _
theorem codesTo_pos (r : List UInt8) : r.length ≤ (codesTo r).length := by
  induction r with
  | nil => exact Nat.zero_le _
  | cons c r ih =>
    have h1 := decDigits_ge 0 c.toNat
    cases r with
    | nil =>
      rw [codesTo_first]
      by_cases h : 1 ≤ c.toNat
      · exact h1 (by omega)
      · rw [decDigits_small (by omega)]; exact Nat.le_refl _
    | cons d r =>
      have e : codesTo (c :: d :: r) = Lib.decDigits c.toNat ++ 44 :: codesTo (d :: r) := by
        unfold codesTo
        rw [List.map_cons, join_cons, List.map_cons, join_cons, List.map_cons, List.flatten_cons]
        simp
      rw [e]
      simp only [List.length_append, List.length_cons] at ih ⊢
      omega
theorem moreP_rest (k : Nat) (l z : List UInt8) (hk : l.length ≤ k) (c : UInt8) (hc : c ≠ 95) (hz : ∀ r, z ≠ c :: r) : ∀ r, moreP k l ++ z ≠ c :: r := by
  intro r e
  by_cases h : l = []
  · subst h; rw [moreP_nil, List.nil_append] at e; exact hz r e
  · rw [moreP_step k l h hk, List.cons_append] at e
    injection e with e1 _
    exact hc e1.symm
theorem trimZ_sub (l : List UInt8) : ∀ c ∈ trimZ l, c ∈ l := by
  intro c hc
  unfold trimZ at hc
  rw [List.mem_reverse] at hc
  exact List.mem_reverse.1 ((List.dropWhile_sublist _).subset hc)
theorem numText_ch (n : Int) : ∀ c ∈ numText n, numCh c = true := by
  have hd : ∀ c, isDig c = true → numCh c = true := fun c h => by unfold numCh; rw [h]; rfl
  have hw : ∀ k, ∀ c ∈ wholeT k, numCh c = true := by
    intro k c hc
    unfold wholeT at hc
    split at hc
    · cases hc
    · exact hd c (decDigits_dig k c hc)
  have hf : ∀ r, ∀ c ∈ fracT r, numCh c = true := by
    intro r c hc
    unfold fracT at hc
    split at hc
    · cases hc
    · rcases List.mem_cons.1 hc with h | h
      · rw [h]; rfl
      · exact hd c (decDigits_dig _ c (List.mem_of_mem_drop (trimZ_sub _ c h)))
  have ha : ∀ a, ∀ c ∈ absT a, numCh c = true := by
    intro a c hc
    unfold absT at hc
    rcases List.mem_append.1 hc with h | h
    · exact hw _ c h
    · exact hf _ c h
  intro c hc
  unfold numText at hc
  split at hc
  · rw [List.mem_singleton.1 hc]; rfl
  · split at hc
    · rcases List.mem_cons.1 hc with h | h
      · rw [h]; rfl
      · exact ha _ c h
    · exact ha _ c hc
theorem canonB_ch (l : List UInt8) (h : canonB l = true) : ∀ c ∈ l, numCh c = true := by
  unfold canonB at h
  have := of_decide_eq_true h
  intro c hc
  rw [← this] at hc
  exact numText_ch _ c hc
theorem takeWhile_all (p : UInt8 → Bool) (z : List UInt8) (hz : ∀ c r, z = c :: r → p c = false) : ∀ l : List UInt8, (∀ c ∈ l, p c = true) → (l ++ z).takeWhile p = l ∧ (l ++ z).dropWhile p = z
  | [], _ => by
    cases z with
    | nil => exact ⟨rfl, rfl⟩
    | cons c r =>
      have := hz c r rfl
      rw [List.nil_append, List.takeWhile_cons, List.dropWhile_cons, this]
      exact ⟨rfl, rfl⟩
  | c :: l, h => by
    obtain ⟨h1, h2⟩ := takeWhile_all p z hz l (fun x hx => h x (List.mem_cons_of_mem _ hx))
    rw [List.cons_append, List.takeWhile_cons, List.dropWhile_cons, h c (List.mem_cons_self ..)]
    exact ⟨by rw [if_pos rfl, h1], by rw [if_pos rfl, h2]⟩
end Go.Proofs.YtfibjcaidnofmaaGreatDoor

