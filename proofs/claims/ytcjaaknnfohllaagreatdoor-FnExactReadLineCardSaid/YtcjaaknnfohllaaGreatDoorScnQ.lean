/- Reading a plain form: the program's reader as plain functions, and that it reads back what the plain form says. -/
import Derived.Test.YtcjaaknnfohllaaGreatDoorScnP
import Derived.Lib.AtoiAll
import Derived.Lib.Split
import Derived.Lib.SplitLaws
namespace Go.Proofs.YtcjaaknnfohllaaGreatDoor

def byteI (v : Int) : UInt8 := UInt8.ofNat (v % 256).toNat
def atoiV (l : List UInt8) : Int := match Lib.atoiAll l with
  | .ok v => v
  | .range => Lib.atoiSat l
  | _ => 0
def wordsB (s : ByteArray) : List ByteArray := Lib.splitB ⟨#[44]⟩ 0 (Lib.countB s ⟨#[44]⟩) s
def bI (l : List UInt8) : List UInt8 × List UInt8 := ((wordsB ⟨(Lib.cut l [41]).1.toArray⟩).map (fun w => byteI (atoiV w.data.toList)), (Lib.cut l [41]).2.1)

theorem index_app (a z : List UInt8) (x : UInt8) (h : ∀ c ∈ a, c ≠ x) : Lib.index (a ++ x :: z) [x] = a.length := by
  induction a with
  | nil => rw [List.nil_append, index_cons, if_pos rfl]; rfl
  | cons c a ih =>
    have ih' := ih (fun d hd => h d (List.mem_cons_of_mem _ hd))
    rw [List.cons_append, index_cons, if_neg (h c (List.mem_cons_self ..)), ih', if_neg (by omega), List.length_cons]
    omega
theorem index_none (a : List UInt8) (x : UInt8) (h : ∀ c ∈ a, c ≠ x) : Lib.index a [x] = -1 := by
  induction a with
  | nil => rfl
  | cons c a ih =>
    have ih' := ih (fun d hd => h d (List.mem_cons_of_mem _ hd))
    rw [index_cons, if_neg (h c (List.mem_cons_self ..)), ih', if_pos rfl]
theorem cut_app (a z : List UInt8) (x : UInt8) (h : ∀ c ∈ a, c ≠ x) : Lib.cut (a ++ x :: z) [x] = (a, z, true) := by
  unfold Lib.cut
  rw [index_app a z x h, if_pos (by omega)]
  simp
theorem codesTo_ch (r : List UInt8) : ∀ c ∈ codesTo r, isDig c = true ∨ c = 44 := by
  induction r with
  | nil => intro c hc; cases hc
  | cons d r ih =>
    cases r with
    | nil => rw [codesTo_first]; intro c hc; exact .inl (decDigits_dig _ c hc)
    | cons e r =>
      have he : codesTo (d :: e :: r) = Lib.decDigits d.toNat ++ 44 :: codesTo (e :: r) := by
        unfold codesTo
        rw [List.map_cons, join_cons, List.map_cons, join_cons, List.map_cons, List.flatten_cons]
        simp
      rw [he]
      intro c hc
      rcases List.mem_append.1 hc with h | h
      · exact .inl (decDigits_dig _ c h)
      · rcases List.mem_cons.1 h with h | h
        · exact .inr h
        · exact ih c h
theorem split_codes : ∀ (r : List UInt8) (k : Nat), r ≠ [] → r.length ≤ k + 1 → Lib.splitK [44] 0 k (codesTo r) = r.map (fun c => Lib.decDigits c.toNat)
  | [], _, h, _ => absurd rfl h
  | [c], k, _, _ => by
    rw [codesTo_first]
    have := index_none (Lib.decDigits c.toNat) 44 (fun d hd e => by have := decDigits_dig _ d hd; rw [e] at this; cases this)
    cases k with
    | zero => rfl
    | succ k => unfold Lib.splitK; rw [this]; rfl
  | c :: d :: r, k, _, hk => by
    obtain ⟨k, rfl⟩ : ∃ j, k = j + 1 := ⟨k - 1, by simp at hk; omega⟩
    have he : codesTo (c :: d :: r) = Lib.decDigits c.toNat ++ 44 :: codesTo (d :: r) := by
      unfold codesTo
      rw [List.map_cons, join_cons, List.map_cons, join_cons, List.map_cons, List.flatten_cons]
      simp
    have hi := index_app (Lib.decDigits c.toNat) (codesTo (d :: r)) 44 (fun x hx e => by have := decDigits_dig _ x hx; rw [e] at this; cases this)
    rw [he]
    unfold Lib.splitK
    rw [hi, if_neg (by simp), List.map_cons]
    have ht : ((Lib.decDigits c.toNat).length : Int).toNat = (Lib.decDigits c.toNat).length := by omega
    rw [ht, Nat.add_zero, List.take_left]
    congr 1
    rw [show (Lib.decDigits c.toNat).length + [(44 : UInt8)].length = (Lib.decDigits c.toNat ++ [44]).length by simp]
    rw [show Lib.decDigits c.toNat ++ 44 :: codesTo (d :: r) = (Lib.decDigits c.toNat ++ [44]) ++ codesTo (d :: r) by simp, List.drop_left]
    exact split_codes (d :: r) k (by simp) (by simpa using hk)
theorem count_codes (r : List UInt8) (h : r ≠ []) : r.length ≤ (codesTo r).count 44 + 1 := by
  induction r with
  | nil => exact absurd rfl h
  | cons c r ih =>
    cases r with
    | nil => simp
    | cons d r =>
      have he : codesTo (c :: d :: r) = Lib.decDigits c.toNat ++ 44 :: codesTo (d :: r) := by
        unfold codesTo
        rw [List.map_cons, join_cons, List.map_cons, join_cons, List.map_cons, List.flatten_cons]
        simp
      have := ih (by simp)
      rw [he, List.count_append, List.count_cons_self]
      simp only [List.length_cons] at this ⊢
      omega
theorem atoi_one : ∀ a : Fin 10, Lib.atoiAll [48 + UInt8.ofNat a] = .ok ((a.val : Nat) : Int) := by decide +kernel
theorem atoi_two : ∀ a b : Fin 10, Lib.atoiAll [48 + UInt8.ofNat a, 48 + UInt8.ofNat b] = .ok ((10 * a.val + b.val : Nat) : Int) := by decide +kernel
theorem atoi_three : ∀ a b c : Fin 10, Lib.atoiAll [48 + UInt8.ofNat a, 48 + UInt8.ofNat b, 48 + UInt8.ofNat c] = .ok ((100 * a.val + 10 * b.val + c.val : Nat) : Int) := by decide +kernel
theorem digit_of (k : Nat) : UInt8.ofNat (48 + k) = 48 + UInt8.ofNat k := by
  apply UInt8.toNat_inj.1
  simp [UInt8.toNat_add, UInt8.toNat_ofNat']
theorem atoi_dec (n : Nat) (h : n < 1000) : Lib.atoiAll (Lib.decDigits n) = .ok (n : Int) := by
  by_cases h1 : n < 10
  · rw [decDigits_small h1, digit_of]
    exact atoi_one ⟨n, h1⟩
  · by_cases h2 : n < 100
    · rw [decDigits_big h1, decDigits_small (by omega), digit_of, digit_of]
      have := atoi_two ⟨n / 10, by omega⟩ ⟨n % 10, by omega⟩
      rw [show [48 + UInt8.ofNat (n / 10)] ++ [48 + UInt8.ofNat (n % 10)] = [48 + UInt8.ofNat (n / 10), 48 + UInt8.ofNat (n % 10)] from rfl, this]
      congr 1
      show ((10 * (n / 10) + n % 10 : Nat) : Int) = n
      omega
    · rw [decDigits_big h1, decDigits_big (by omega), decDigits_small (by omega), digit_of, digit_of, digit_of]
      have := atoi_three ⟨n / 10 / 10, by omega⟩ ⟨n / 10 % 10, by omega⟩ ⟨n % 10, by omega⟩
      rw [show [48 + UInt8.ofNat (n / 10 / 10)] ++ [48 + UInt8.ofNat (n / 10 % 10)] ++ [48 + UInt8.ofNat (n % 10)] = [48 + UInt8.ofNat (n / 10 / 10), 48 + UInt8.ofNat (n / 10 % 10), 48 + UInt8.ofNat (n % 10)] from rfl, this]
      congr 1
      show ((100 * (n / 10 / 10) + 10 * (n / 10 % 10) + n % 10 : Nat) : Int) = n
      omega
theorem byteI_code (c : UInt8) : byteI (atoiV (Lib.decDigits c.toNat)) = c := by
  have hlt := c.toNat_lt
  unfold atoiV
  rw [atoi_dec _ (by omega)]
  unfold byteI
  dsimp only
  rw [show ((c.toNat : Int) % 256).toNat = c.toNat by omega]
  simp
theorem bI_codes (r rest : List UInt8) (h : r ≠ []) : bI (codesTo r ++ 41 :: rest) = (r, rest) := by
  have hc := cut_app (codesTo r) rest 41 (fun c hc e => by
    rcases codesTo_ch r c hc with h1 | h1
    · rw [e] at h1; cases h1
    · rw [e] at h1; cases h1)
  unfold bI
  rw [hc]
  dsimp only
  have hw : (wordsB ⟨(codesTo r).toArray⟩).map (·.data.toList) = r.map (fun c => Lib.decDigits c.toNat) := by
    unfold wordsB
    rw [Lib.splitB_data]
    refine split_codes r _ h ?_
    show r.length ≤ Lib.count (codesTo r) [44] + 1
    rw [Lib.count_one]
    exact count_codes r h
  have e : (wordsB ⟨(codesTo r).toArray⟩).map (fun w => byteI (atoiV w.data.toList)) = ((wordsB ⟨(codesTo r).toArray⟩).map (·.data.toList)).map (fun l => byteI (atoiV l)) := by rw [List.map_map]; rfl
  rw [e, hw, List.map_map]
  have e2 : ((fun l => byteI (atoiV l)) ∘ fun c : UInt8 => Lib.decDigits c.toNat) = id := by
    funext c; exact byteI_code c
  rw [e2, List.map_id]

/-- The program's reading of parts. -/
def pI : Nat → List UInt8 → List UInt8 × List UInt8
  | 0, l => ([], l)
  | f + 1, l =>
    if [34].isPrefixOf l then (match qI (l.drop 1) with
      | none => ([], l)
      | some p => (match p.2 with | 95 :: r => (p.1 ++ (pI f r).1, (pI f r).2) | r => (p.1, r)))
    else if [36, 67, 40].isPrefixOf l then (match (bI (l.drop 3)).2 with | 95 :: r => ((bI (l.drop 3)).1 ++ (pI f r).1, (pI f r).2) | r => ((bI (l.drop 3)).1, r))
    else ([], l)
def pT (f : Nat) (p : List UInt8 × List UInt8) : List UInt8 × List UInt8 := match p.2 with
  | 95 :: r => (p.1 ++ (pI f r).1, (pI f r).2)
  | r => (p.1, r)
theorem pT_more (f : Nat) (a r : List UInt8) : pT f (a, 95 :: r) = (a ++ (pI f r).1, (pI f r).2) := rfl
theorem pT_stop (f : Nat) (a l : List UInt8) (h : ∀ r, l ≠ 95 :: r) : pT f (a, l) = (a, l) := by
  unfold pT
  dsimp only
  split
  · rename_i r; exact absurd rfl (h r)
  · rfl
theorem pI_q (f : Nat) (l : List UInt8) (p : List UInt8 × List UInt8) (h : [34].isPrefixOf l = true) (hp : qI (l.drop 1) = some p) : pI (f + 1) l = pT f p := by
  conv => lhs; unfold pI
  rw [if_pos h, hp]; rfl
theorem pI_x (f : Nat) (l : List UInt8) (h : [34].isPrefixOf l = true) (hp : qI (l.drop 1) = none) : pI (f + 1) l = ([], l) := by
  conv => lhs; unfold pI
  rw [if_pos h, hp]
theorem pI_c (f : Nat) (l : List UInt8) (h : [34].isPrefixOf l = false) (h2 : [36, 67, 40].isPrefixOf l = true) : pI (f + 1) l = pT f (bI (l.drop 3)) := by
  conv => lhs; unfold pI
  rw [h, if_neg (by decide), if_pos h2]; rfl
theorem pI_n (f : Nat) (l : List UInt8) (h : [34].isPrefixOf l = false) (h2 : [36, 67, 40].isPrefixOf l = false) : pI (f + 1) l = ([], l) := by
  conv => lhs; unfold pI
  rw [h, if_neg (by decide), h2, if_neg (by decide)]
theorem pI_runs (z : List UInt8) (hz34 : ∀ r, z ≠ 34 :: r) (hz95 : ∀ r, z ≠ 95 :: r) : ∀ (n : Nat) (l : List UInt8) (k f : Nat), l.length ≤ n → l ≠ [] → l.length ≤ k → l.length ≤ f → pI f (formP (runOf l) ++ (moreP k (runRest l) ++ z)) = (l, z)
  | 0, l, _, _, h, hl, _, _ => absurd (List.eq_nil_of_length_eq_zero (Nat.le_zero.1 h)) hl
  | n + 1, l, k, f, hn, hl, hk, hf => by
    have h1 := runRest_len l hl
    have h2 := runs_split l hl
    have hro : runOf l ≠ [] := by
      intro e
      rw [e, List.nil_append] at h2
      rw [h2] at h1; omega
    obtain ⟨f, rfl⟩ : ∃ g, f = g + 1 := ⟨f - 1, by have := List.length_pos_iff.2 hl; omega⟩
    have more : pT f (runOf l, moreP k (runRest l) ++ z) = (l, z) := by
      by_cases hn0 : runRest l = []
      · rw [hn0, moreP_nil, List.nil_append, pT_stop _ _ _ hz95]
        rw [hn0, List.append_nil] at h2
        rw [h2]
      · rw [moreP_step k _ hn0 (by omega), List.cons_append, pT_more, List.append_assoc, pI_runs z hz34 hz95 n (runRest l) k f (by omega) hn0 (by omega) (by omega), h2]
    rcases formP_first (runOf l) hro with e | e
    · have hq := qI_doubled (runOf l) (moreP k (runRest l) ++ z) (moreP_rest k _ z (by omega) 34 (by decide) hz34)
      rw [e, List.cons_append, List.append_assoc]
      show pI (f + 1) (34 :: (doubled (runOf l) ++ 34 :: (moreP k (runRest l) ++ z))) = (l, z)
      rw [pI_q f (34 :: (doubled (runOf l) ++ 34 :: (moreP k (runRest l) ++ z))) (runOf l, moreP k (runRest l) ++ z) rfl hq]
      exact more
    · have hc := bI_codes (runOf l) (moreP k (runRest l) ++ z) hro
      rw [e, List.cons_append, List.cons_append, List.cons_append, List.append_assoc]
      show pI (f + 1) (36 :: 67 :: 40 :: (codesTo (runOf l) ++ 41 :: (moreP k (runRest l) ++ z))) = (l, z)
      rw [pI_c _ _ rfl rfl]
      show pT f (bI (codesTo (runOf l) ++ 41 :: (moreP k (runRest l) ++ z))) = (l, z)
      rw [hc]
      exact more
/-- The program's reading. -/
def sI (l : List UInt8) : List UInt8 × List UInt8 := if 0 < (l.takeWhile numCh).length then (l.takeWhile numCh, l.dropWhile numCh) else pI (l.length + 1) l
theorem sI_plain (u z : List UInt8) (hz34 : ∀ r, z ≠ 34 :: r) (hz95 : ∀ r, z ≠ 95 :: r) (hzn : ∀ c r, z = c :: r → numCh c = false) : sI (plainP u ++ z) = (u, z) := by
  unfold sI
  cases hc : canonB u
  · by_cases h0 : u = []
    · subst h0
      have : plainP [] = [34, 34] := by unfold plainP; rw [hc]; rfl
      rw [this]
      show (if 0 < ((34 :: 34 :: z).takeWhile numCh).length then _ else pI ((34 :: 34 :: z).length + 1) (34 :: 34 :: z)) = ([], z)
      rw [List.takeWhile_cons, if_neg (show ¬ numCh 34 = true by decide), if_neg (by simp), pI_q _ _ ([], z) rfl (by show qI (34 :: z) = _; exact qI_end z hz34), pT_stop _ _ _ hz95]
    · have hl : u.length ≤ (plainP u ++ z).length + 1 := by
        have := congrArg List.length (runs_split u h0)
        rw [plainP_runs hc h0]
        have key : ∀ (n : Nat) (l : List UInt8) (k : Nat), l.length ≤ n → l.length ≤ k → l.length ≤ (moreP k l).length := by
          intro n
          induction n with
          | zero => intro l k h _; omega
          | succ n ih =>
            intro l k hn hk
            by_cases hl : l = []
            · subst hl; exact Nat.zero_le _
            · have h1 := runRest_len l hl
              have h2 := congrArg List.length (runs_split l hl)
              have h3 := ih (runRest l) k (by omega) (by omega)
              have hro : runOf l ≠ [] := by
                intro e; rw [e, List.length_append, List.length_nil] at h2; omega
              have h4 : (runOf l).length ≤ (formP (runOf l)).length := by
                rcases formP_first (runOf l) hro with e | e
                · rw [e]
                  have : ∀ m : List UInt8, m.length ≤ (doubled m).length := by
                    intro m
                    induction m with
                    | nil => exact Nat.le_refl _
                    | cons c m ihm =>
                      unfold doubled at ihm ⊢
                      rw [List.flatMap_cons, List.length_append, List.length_cons]
                      have : 1 ≤ (if c = 34 then [34, 34] else [c] : List UInt8).length := by split <;> simp
                      omega
                  have := this (runOf l)
                  simp only [List.length_cons, List.length_append, List.length_nil]; omega
                · rw [e]
                  have := codesTo_pos (runOf l)
                  simp only [List.length_cons, List.length_append, List.length_nil]; omega
              rw [moreP_step k l hl hk, List.length_cons, List.length_append]
              rw [List.length_append] at h2
              omega
        have h1 := runRest_len u h0
        have h3 := key u.length (runRest u) u.length (by omega) (by omega)
        have hro : runOf u ≠ [] := by
          intro e; rw [e, List.length_append, List.length_nil] at this; omega
        have h5 := key (runOf u).length.succ.pred (runOf u) (runOf u).length (by simp) (Nat.le_refl _)
        have h4 : (runOf u).length ≤ (formP (runOf u)).length := by
          rcases formP_first (runOf u) hro with e | e
          · rw [e]
            have : ∀ m : List UInt8, m.length ≤ (doubled m).length := by
              intro m
              induction m with
              | nil => exact Nat.le_refl _
              | cons c m ihm =>
                unfold doubled at ihm ⊢
                rw [List.flatMap_cons, List.length_append, List.length_cons]
                have : 1 ≤ (if c = 34 then [34, 34] else [c] : List UInt8).length := by split <;> simp
                omega
            have := this (runOf u)
            simp only [List.length_cons, List.length_append, List.length_nil]; omega
          · rw [e]
            have := codesTo_pos (runOf u)
            simp only [List.length_cons, List.length_append, List.length_nil]; omega
        rw [List.length_append] at this
        rw [List.length_append, List.length_append]
        omega
      have hr := pI_runs z hz34 hz95 u.length u u.length ((plainP u ++ z).length + 1) (Nat.le_refl _) h0 (Nat.le_refl _) hl
      have hp := plainP_runs hc h0
      have h1 := runRest_len u h0
      have h2 := congrArg List.length (runs_split u h0)
      have hro : runOf u ≠ [] := by
        intro e; rw [e, List.length_append, List.length_nil] at h2; omega
      have ht : (plainP u ++ z).takeWhile numCh = [] := by
        rw [hp]
        rcases formP_first (runOf u) hro with e | e
        · rw [e]; rfl
        · rw [e]; rfl
      rw [ht, if_neg (by simp)]
      conv => lhs; arg 2; rw [hp, List.append_assoc]
      exact hr
  · have hp : plainP u = u := by unfold plainP; rw [hc]; rfl
    have hu : u ≠ [] := fun e => by subst e; rw [canonB_nil] at hc; cases hc
    obtain ⟨h1, h2⟩ := takeWhile_all numCh z hzn u (canonB_ch u hc)
    rw [hp, h1, h2, if_pos (List.length_pos_iff.2 hu)]
end Go.Proofs.YtcjaaknnfohllaaGreatDoor
