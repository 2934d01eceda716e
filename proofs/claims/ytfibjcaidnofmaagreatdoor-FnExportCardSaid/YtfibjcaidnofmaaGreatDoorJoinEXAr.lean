/- Reading a plain form: the program's reader as plain functions, and that it reads back what the plain form says. -/
import Derived.Test.YtfibjcaidnofmaaGreatDoorJoinEXAm
import Derived.Lib.AtoiAll
import Derived.Lib.Split
import Derived.Lib.SplitLaws
import Derived.Test.YtfibjcaidnofmaaGreatDoorJoinEXAp
import Derived.Test.YtfibjcaidnofmaaGreatDoorJoinEXAe
import Derived.Test.YtfibjcaidnofmaaGreatDoorShelfA
import Derived.Test.YtfibjcaidnofmaaGreatDoorJoinEXAo
namespace Go.Proofs.YtfibjcaidnofmaaGreatDoor

def byteI (v : Int) : UInt8 := UInt8.ofNat (v % 256).toNat
def atoiV (l : List UInt8) : Int := match Lib.atoiAll l with
  | .ok v => v
  | .range => Lib.atoiSat l
  | _ => 0
def wordsB (s : ByteArray) : List ByteArray := Lib.splitB ⟨#[44]⟩ 0 (Lib.countB s ⟨#[44]⟩) s
def bI (l : List UInt8) : List UInt8 × List UInt8 := ((wordsB ⟨(Lib.cut l [41]).1.toArray⟩).map (fun w => byteI (atoiV w.data.toList)), (Lib.cut l [41]).2.1)

theorem index_app (a z : List UInt8) (x : UInt8) (h : ∀ c ∈ a, c ≠ x) : Lib.index (a ++ x :: z) [x] = a.length := by
  induction a with
  | nil => rw [List.nil_append, index_cons, if_pos rfl]; rfl
  | cons c a ih =>
    have ih' := ih (fun d hd => h d (List.mem_cons_of_mem _ hd))
    rw [List.cons_append, index_cons, if_neg (h c (List.mem_cons_self ..)), ih', if_neg (by omega), List.length_cons]
    omega
theorem index_none (a : List UInt8) (x : UInt8) (h : ∀ c ∈ a, c ≠ x) : Lib.index a [x] = -1 := by
  induction a with
  | nil => rfl
  | cons c a ih =>
    have ih' := ih (fun d hd => h d (List.mem_cons_of_mem _ hd))
    rw [index_cons, if_neg (h c (List.mem_cons_self ..)), ih', if_pos rfl]
theorem cut_app (a z : List UInt8) (x : UInt8) (h : ∀ c ∈ a, c ≠ x) : Lib.cut (a ++ x :: z) [x] = (a, z, true) := by
  unfold Lib.cut
  rw [index_app a z x h, if_pos (by omega)]
  simp
theorem codesTo_ch (r : List UInt8) : ∀ c ∈ codesTo r, isDig c = true ∨ c = 44 := by
  induction r with
  | nil => intro c hc; cases hc
  | cons d r ih =>
    cases r with
    | nil => rw [codesTo_first]; intro c hc; exact .inl (decDigits_dig _ c hc)
    | cons e r =>
      have he : codesTo (d :: e :: r) = Lib.decDigits d.toNat ++ 44 :: codesTo (e :: r) := by
        unfold codesTo
        rw [List.map_cons, join_cons, List.map_cons, join_cons, List.map_cons, List.flatten_cons]
        simp
      rw [he]
      intro c hc
      rcases List.mem_append.1 hc with h | h
      · exact .inl (decDigits_dig _ c h)
      · rcases List.mem_cons.1 h with h | h
        · exact .inr h
        · exact ih c h
theorem split_codes : ∀ (r : List UInt8) (k : Nat), r ≠ [] → r.length ≤ k + 1 → Lib.splitK [44] 0 k (codesTo r) = r.map (fun c => Lib.decDigits c.toNat)
  | [], _, h, _ => absurd rfl h
  | [c], k, _, _ => by
    rw [codesTo_first]
    have := index_none (Lib.decDigits c.toNat) 44 (fun d hd e => by have := decDigits_dig _ d hd; rw [e] at this; cases this)
    cases k with
    | zero => rfl
    | succ k => unfold Lib.splitK; rw [this]; rfl
  | c :: d :: r, k, _, hk => by
    obtain ⟨k, rfl⟩ : ∃ j, k = j + 1 := ⟨k - 1, by simp at hk; omega⟩
    have he : codesTo (c :: d :: r) = Lib.decDigits c.toNat ++ 44 :: codesTo (d :: r) := by
      unfold codesTo
      rw [List.map_cons, join_cons, List.map_cons, join_cons, List.map_cons, List.flatten_cons]
      simp
    have hi := index_app (Lib.decDigits c.toNat) (codesTo (d :: r)) 44 (fun x hx e => by have := decDigits_dig _ x hx; rw [e] at this; cases this)
    rw [he]
    unfold Lib.splitK
    rw [hi, if_neg (by simp), List.map_cons]
    have ht : ((Lib.decDigits c.toNat).length : Int).toNat = (Lib.decDigits c.toNat).length := by omega
    rw [ht, Nat.add_zero, List.take_left]
    congr 1
    rw [show (Lib.decDigits c.toNat).length + [(44 : UInt8)].length = (Lib.decDigits c.toNat ++ [44]).length by simp]
    rw [show Lib.decDigits c.toNat ++ 44 :: codesTo (d :: r) = (Lib.decDigits c.toNat ++ [44]) ++ codesTo (d :: r) by simp, List.drop_left]
    exact split_codes (d :: r) k (by simp) (by simpa using hk)
theorem count_codes (r : List UInt8) (h : r ≠ []) : r.length ≤ (codesTo r).count 44 + 1 := by
  induction r with
  | nil => exact absurd rfl h
  | cons c r ih =>
    cases r with
    | nil => simp
    | cons d r =>
      have he : codesTo (c :: d :: r) = Lib.decDigits c.toNat ++ 44 :: codesTo (d :: r) := by
        unfold codesTo
        rw [List.map_cons, join_cons, List.map_cons, join_cons, List.map_cons, List.flatten_cons]
        simp
      have := ih (by simp)
      rw [he, List.count_append, List.count_cons_self]
      simp only [List.length_cons] at this ⊢
      omega
theorem atoi_one : ∀ a : Fin 10, Lib.atoiAll [48 + UInt8.ofNat a] = .ok ((a.val : Nat) : Int) := by decide +kernel
theorem atoi_two : ∀ a b : Fin 10, Lib.atoiAll [48 + UInt8.ofNat a, 48 + UInt8.ofNat b] = .ok ((10 * a.val + b.val : Nat) : Int) := by decide +kernel
theorem atoi_three : ∀ a b c : Fin 10, Lib.atoiAll [48 + UInt8.ofNat a, 48 + UInt8.ofNat b, 48 + UInt8.ofNat c] = .ok ((100 * a.val + 10 * b.val + c.val : Nat) : Int) := by decide +kernel
theorem digit_of (k : Nat) : UInt8.ofNat (48 + k) = 48 + UInt8.ofNat k := by
  apply UInt8.toNat_inj.1
  simp [UInt8.toNat_add, UInt8.toNat_ofNat']
theorem atoi_dec (n : Nat) (h : n < 1000) : Lib.atoiAll (Lib.decDigits n) = .ok (n : Int) := by
  by_cases h1 : n < 10
  · rw [decDigits_small h1, digit_of]
    exact atoi_one ⟨n, h1⟩
  · by_cases h2 : n < 100
    · rw [decDigits_big h1, decDigits_small (by omega), digit_of, digit_of]
      have := atoi_two ⟨n / 10, by omega⟩ ⟨n % 10, by omega⟩
      rw [show [48 + UInt8.ofNat (n / 10)] ++ [48 + UInt8.ofNat (n % 10)] = [48 + UInt8.ofNat (n / 10), 48 + UInt8.ofNat (n % 10)] from rfl, this]
      congr 1
      show ((10 * (n / 10) + n % 10 : Nat) : Int) = n
      omega
    · rw [decDigits_big h1, decDigits_big (by omega), decDigits_small (by omega), digit_of, digit_of, digit_of]
      have := atoi_three ⟨n / 10 / 10, by omega⟩ ⟨n / 10 % 10, by omega⟩ ⟨n % 10, by omega⟩
      rw [show [48 + UInt8.ofNat (n / 10 / 10)] ++ [48 + UInt8.ofNat (n / 10 % 10)] ++ [48 + UInt8.ofNat (n % 10)] = [48 + UInt8.ofNat (n / 10 / 10), 48 + UInt8.ofNat (n / 10 % 10), 48 + UInt8.ofNat (n % 10)] from rfl, this]
      congr 1
      show ((100 * (n / 10 / 10) + 10 * (n / 10 % 10) + n % 10 : Nat) : Int) = n
      omega
theorem byteI_code (c : UInt8) : byteI (atoiV (Lib.decDigits c.toNat)) = c := by
  have hlt := c.toNat_lt
  unfold atoiV
  rw [atoi_dec _ (by omega)]
  unfold byteI
  dsimp only
  rw [show ((c.toNat : Int) % 256).toNat = c.toNat by omega]
  simp
theorem bI_codes (r rest : List UInt8) (h : r ≠ []) : bI (codesTo r ++ 41 :: rest) = (r, rest) := by
  have hc := cut_app (codesTo r) rest 41 (fun c hc e => by
    rcases codesTo_ch r c hc with h1 | h1
    · rw [e] at h1; cases h1
    · rw [e] at h1; cases h1)
  unfold bI
  rw [hc]
  dsimp only
  have hw : (wordsB ⟨(codesTo r).toArray⟩).map (·.data.toList) = r.map (fun c => Lib.decDigits c.toNat) := by
    unfold wordsB
    rw [Lib.splitB_data]
    refine split_codes r _ h ?_
    show r.length ≤ Lib.count (codesTo r) [44] + 1
    rw [Lib.count_one]
    exact count_codes r h
  have e : (wordsB ⟨(codesTo r).toArray⟩).map (fun w => byteI (atoiV w.data.toList)) = ((wordsB ⟨(codesTo r).toArray⟩).map (·.data.toList)).map (fun l => byteI (atoiV l)) := by rw [List.map_map]; rfl
  rw [e, hw, List.map_map]
  have e2 : ((fun l => byteI (atoiV l)) ∘ fun c : UInt8 => Lib.decDigits c.toNat) = id := by
    funext c; exact byteI_code c
  rw [e2, List.map_id]

/-- The program's reading of parts. -/
def pI : Nat → List UInt8 → List UInt8 × List UInt8
  | 0, l => ([], l)
  | f + 1, l =>
    if [34].isPrefixOf l then (match qI (l.drop 1) with
      | none => ([], l)
      | some p => (match p.2 with | 95 :: r => (p.1 ++ (pI f r).1, (pI f r).2) | r => (p.1, r)))
    else if [36, 67, 40].isPrefixOf l then (match (bI (l.drop 3)).2 with | 95 :: r => ((bI (l.drop 3)).1 ++ (pI f r).1, (pI f r).2) | r => ((bI (l.drop 3)).1, r))
    else ([], l)
def pT (f : Nat) (p : List UInt8 × List UInt8) : List UInt8 × List UInt8 := match p.2 with
  | 95 :: r => (p.1 ++ (pI f r).1, (pI f r).2)
  | r => (p.1, r)
theorem pT_more (f : Nat) (a r : List UInt8) : pT f (a, 95 :: r) = (a ++ (pI f r).1, (pI f r).2) := rfl
theorem pT_stop (f : Nat) (a l : List UInt8) (h : ∀ r, l ≠ 95 :: r) : pT f (a, l) = (a, l) := by
  unfold pT
  dsimp only
  split
  · rename_i r; exact absurd rfl (h r)
  · rfl
theorem pI_q (f : Nat) (l : List UInt8) (p : List UInt8 × List UInt8) (h : [34].isPrefixOf l = true) (hp : qI (l.drop 1) = some p) : pI (f + 1) l = pT f p := by
  conv => lhs; unfold pI
  rw [if_pos h, hp]; rfl
theorem pI_x (f : Nat) (l : List UInt8) (h : [34].isPrefixOf l = true) (hp : qI (l.drop 1) = none) : pI (f + 1) l = ([], l) := by
  conv => lhs; unfold pI
  rw [if_pos h, hp]
theorem pI_c (f : Nat) (l : List UInt8) (h : [34].isPrefixOf l = false) (h2 : [36, 67, 40].isPrefixOf l = true) : pI (f + 1) l = pT f (bI (l.drop 3)) := by
  conv => lhs; unfold pI
  rw [h, if_neg (by decide), if_pos h2]; rfl
theorem pI_n (f : Nat) (l : List UInt8) (h : [34].isPrefixOf l = false) (h2 : [36, 67, 40].isPrefixOf l = false) : pI (f + 1) l = ([], l) := by
  conv => lhs; unfold pI
  rw [h, if_neg (by decide), h2, if_neg (by decide)]
theorem pI_runs (z : List UInt8) (hz34 : ∀ r, z ≠ 34 :: r) (hz95 : ∀ r, z ≠ 95 :: r) : ∀ (n : Nat) (l : List UInt8) (k f : Nat), l.length ≤ n → l ≠ [] → l.length ≤ k → l.length ≤ f → pI f (formP (runOf l) ++ (moreP k (runRest l) ++ z)) = (l, z)
  | 0, l, _, _, h, hl, _, _ => absurd (List.eq_nil_of_length_eq_zero (Nat.le_zero.1 h)) hl
  | n + 1, l, k, f, hn, hl, hk, hf => by
    have h1 := runRest_len l hl
    have h2 := runs_split l hl
    have hro : runOf l ≠ [] := by
      intro e
      rw [e, List.nil_append] at h2
      rw [h2] at h1; omega
    obtain ⟨f, rfl⟩ : ∃ g, f = g + 1 := ⟨f - 1, by have := List.length_pos_iff.2 hl; omega⟩
    have more : pT f (runOf l, moreP k (runRest l) ++ z) = (l, z) := by
      by_cases hn0 : runRest l = []
      · rw [hn0, moreP_nil, List.nil_append, pT_stop _ _ _ hz95]
        rw [hn0, List.append_nil] at h2
        rw [h2]
      · rw [moreP_step k _ hn0 (by omega), List.cons_append, pT_more, List.append_assoc, pI_runs z hz34 hz95 n (runRest l) k f (by omega) hn0 (by omega) (by omega), h2]
    rcases formP_first (runOf l) hro with e | e
    · have hq := qI_doubled (runOf l) (moreP k (runRest l) ++ z) (moreP_rest k _ z (by omega) 34 (by decide) hz34)
      rw [e, List.cons_append, List.append_assoc]
      show pI (f + 1) (34 :: (doubled (runOf l) ++ 34 :: (moreP k (runRest l) ++ z))) = (l, z)
      rw [pI_q f (34 :: (doubled (runOf l) ++ 34 :: (moreP k (runRest l) ++ z))) (runOf l, moreP k (runRest l) ++ z) rfl hq]
      exact more
    · have hc := bI_codes (runOf l) (moreP k (runRest l) ++ z) hro
      rw [e, List.cons_append, List.cons_append, List.cons_append, List.append_assoc]
      show pI (f + 1) (36 :: 67 :: 40 :: (codesTo (runOf l) ++ 41 :: (moreP k (runRest l) ++ z))) = (l, z)
      rw [pI_c _ _ rfl rfl]
      show pT f (bI (codesTo (runOf l) ++ 41 :: (moreP k (runRest l) ++ z))) = (l, z)
      rw [hc]
      exact more
/-- The program's reading. -/
def sI (l : List UInt8) : List UInt8 × List UInt8 := if 0 < (l.takeWhile numCh).length then (l.takeWhile numCh, l.dropWhile numCh) else pI (l.length + 1) l
theorem sI_plain (u z : List UInt8) (hz34 : ∀ r, z ≠ 34 :: r) (hz95 : ∀ r, z ≠ 95 :: r) (hzn : ∀ c r, z = c :: r → numCh c = false) : sI (plainP u ++ z) = (u, z) := by
  unfold sI
  cases hc : canonB u
  · by_cases h0 : u = []
    · subst h0
      have : plainP [] = [34, 34] := by unfold plainP; rw [hc]; rfl
      rw [this]
      show (if 0 < ((34 :: 34 :: z).takeWhile numCh).length then _ else pI ((34 :: 34 :: z).length + 1) (34 :: 34 :: z)) = ([], z)
      rw [List.takeWhile_cons, if_neg (show ¬ numCh 34 = true by decide), if_neg (by simp), pI_q _ _ ([], z) rfl (by show qI (34 :: z) = _; exact qI_end z hz34), pT_stop _ _ _ hz95]
    · have hl : u.length ≤ (plainP u ++ z).length + 1 := by
        have := congrArg List.length (runs_split u h0)
        rw [plainP_runs hc h0]
        have key : ∀ (n : Nat) (l : List UInt8) (k : Nat), l.length ≤ n → l.length ≤ k → l.length ≤ (moreP k l).length := by
          intro n
          induction n with
          | zero => intro l k h _; omega
          | succ n ih =>
            intro l k hn hk
            by_cases hl : l = []
            · subst hl; exact Nat.zero_le _
            · have h1 := runRest_len l hl
              have h2 := congrArg List.length (runs_split l hl)
              have h3 := ih (runRest l) k (by omega) (by omega)
              have hro : runOf l ≠ [] := by
                intro e; rw [e, List.length_append, List.length_nil] at h2; omega
              have h4 : (runOf l).length ≤ (formP (runOf l)).length := by
                rcases formP_first (runOf l) hro with e | e
                · rw [e]
                  have : ∀ m : List UInt8, m.length ≤ (doubled m).length := by
                    intro m
                    induction m with
                    | nil => exact Nat.le_refl _
                    | cons c m ihm =>
                      unfold doubled at ihm ⊢
                      rw [List.flatMap_cons, List.length_append, List.length_cons]
                      have : 1 ≤ (if c = 34 then [34, 34] else [c] : List UInt8).length := by split <;> simp
                      omega
                  have := this (runOf l)
                  simp only [List.length_cons, List.length_append, List.length_nil]; omega
                · rw [e]
                  have := codesTo_pos (runOf l)
                  simp only [List.length_cons, List.length_append, List.length_nil]; omega
              rw [moreP_step k l hl hk, List.length_cons, List.length_append]
              rw [List.length_append] at h2
              omega
        have h1 := runRest_len u h0
        have h3 := key u.length (runRest u) u.length (by omega) (by omega)
        have hro : runOf u ≠ [] := by
          intro e; rw [e, List.length_append, List.length_nil] at this; omega
        have h5 := key (runOf u).length.succ.pred (runOf u) (runOf u).length (by simp) (Nat.le_refl _)
        have h4 : (runOf u).length ≤ (formP (runOf u)).length := by
          rcases formP_first (runOf u) hro with e | e
          · rw [e]
            have : ∀ m : List UInt8, m.length ≤ (doubled m).length := by
              intro m
              induction m with
              | nil => exact Nat.le_refl _
              | cons c m ihm =>
                unfold doubled at ihm ⊢
                rw [List.flatMap_cons, List.length_append, List.length_cons]
                have : 1 ≤ (if c = 34 then [34, 34] else [c] : List UInt8).length := by split <;> simp
                omega
            have := this (runOf u)
            simp only [List.length_cons, List.length_append, List.length_nil]; omega
          · rw [e]
            have := codesTo_pos (runOf u)
            simp only [List.length_cons, List.length_append, List.length_nil]; omega
        rw [List.length_append] at this
        rw [List.length_append, List.length_append]
        omega
      have hr := pI_runs z hz34 hz95 u.length u u.length ((plainP u ++ z).length + 1) (Nat.le_refl _) h0 (Nat.le_refl _) hl
      have hp := plainP_runs hc h0
      have h1 := runRest_len u h0
      have h2 := congrArg List.length (runs_split u h0)
      have hro : runOf u ≠ [] := by
        intro e; rw [e, List.length_append, List.length_nil] at h2; omega
      have ht : (plainP u ++ z).takeWhile numCh = [] := by
        rw [hp]
        rcases formP_first (runOf u) hro with e | e
        · rw [e]; rfl
        · rw [e]; rfl
      rw [ht, if_neg (by simp)]
      conv => lhs; arg 2; rw [hp, List.append_assoc]
      exact hr
  · have hp : plainP u = u := by unfold plainP; rw [hc]; rfl
    have hu : u ≠ [] := fun e => by subst e; rw [canonB_nil] at hc; cases hc
    obtain ⟨h1, h2⟩ := takeWhile_all numCh z hzn u (canonB_ch u hc)
    rw [hp, h1, h2, if_pos (List.length_pos_iff.2 hu)]
end Go.Proofs.YtfibjcaidnofmaaGreatDoor

/- The program's reader walked: quoted, scanBytes. -/
namespace Go.Proofs.YtfibjcaidnofmaaGreatDoor
open Go.RowKit

/-- What the library reads of the world, the error variables too. -/
def ErrIn (w : World) (g : Nat) : Prop := ∃ ev, w.cell? ⟨g, 0, none⟩ = some ev ∧ (ev = .nilIface ∨ ∃ te pe, ev = .iface te pe)
theorem ErrIn.below {w w' : World} {g : Nat} (h : ErrIn w g) (hb : Below w.heap.size w w') : ErrIn w' g := by
  obtain ⟨ev, h1, h2⟩ := h
  have hlt : g < w.heap.size := by
    rcases Nat.lt_or_ge g w.heap.size with h' | h'
    · exact h'
    · unfold World.cell? at h1
      rw [Array.getElem?_eq_none h'] at h1; cases h1
  exact ⟨ev, (hb.cell (p := ⟨g, 0, none⟩) hlt).trans h1, h2⟩
def EnvR (w : World) : Prop := EnvIn w ∧ ErrIn w 1 ∧ ErrIn w 2
theorem EnvR.below {w w' : World} (h : EnvR w) (hb : Below w.heap.size w w') : EnvR w' := ⟨h.1.below hb, h.2.1.below hb, h.2.2.below hb⟩

theorem atoi_any (s : ByteArray) (hs : s.size ≤ 1048576) (w : World) (hE : EnvR w) : Calls Tryz.prog 97 #[.string s] w fun e w' => (∃ ev, e = .returned (.tuple #[.int .i64 (atoiV s.data.toList), ev])) ∧ Below w.heap.size w w' := by
  cases h : Lib.atoiAll s.data.toList with
  | ok v =>
    refine (Tryz.strconv_Atoi_ok s (by omega) v h w).mono ?_
    rintro e w' ⟨rfl, hw⟩
    refine ⟨⟨.nilIface, by unfold atoiV; rw [h]⟩, ?_⟩
    rcases hw with rfl | ⟨t, rfl⟩
    · exact Below.refl _ _
    · exact ⟨rfl, rfl, rfl, by rw [Lib.bytesWorld_size]; omega, fun k hk => Lib.bytesWorld_at_old w _ t k hk⟩
  | range =>
    obtain ⟨ev, h1, h2⟩ := hE.2.2
    refine (Tryz.strconv_Atoi_range s (by omega) h ev w h1 h2).mono ?_
    rintro e w' ⟨N, rfl, _, _, hb⟩
    exact ⟨⟨_, by unfold atoiV; rw [h]⟩, hb⟩
  | _ =>
    obtain ⟨ev, h1, h2⟩ := hE.2.1
    refine (Tryz.strconv_Atoi_syntax s (by omega) h ev w h1 h2).mono ?_
    rintro e w' ⟨N, rfl, _, _, hb⟩
    exact ⟨⟨_, by unfold atoiV; rw [h]⟩, hb⟩

def addQ (b : List UInt8) (o : Option (List UInt8 × List UInt8)) : Option (List UInt8 × List UInt8) := o.map fun p => (b ++ p.1, p.2)
theorem addQ_cons (b : List UInt8) (c : UInt8) (o : Option (List UInt8 × List UInt8)) : addQ b (o.map (fun p => (c :: p.1, p.2))) = addQ (b ++ [c]) o := by
  cases o with
  | none => rfl
  | some p => unfold addQ; simp
def qIV (n : Nat) : Option (List UInt8 × List UInt8) → Value
  | some p => .tuple #[.string ⟨p.1.toArray⟩, .int .i64 ((n - p.2.length : Nat) : Int)]
  | none => .tuple #[.string ⟨#[]⟩, .int .i64 0]

set_option maxHeartbeats 8000000 in
set_option maxRecDepth 100000 in
theorem quotedI_any (s : ByteArray) (h0 : 1 ≤ s.size) (hs : s.size ≤ 1048576) (w : World) :
    Calls Tryz.prog 92 #[.string s] w fun e w' => e = .returned (qIV s.size (qI (s.data.toList.drop 1))) ∧ Below w.heap.size w w' := by
  generalize hQ : qI (s.data.toList.drop 1) = Q at *
  have HQ := Lib.hid hQ; clear hQ
  have hbn := Lib.hid (bld_new w)
  have HB0 := Lib.hid ((Below.refl w.heap.size w).alloc (Nat.le_refl _) (.cells #[.pointer none, .slice none 0 0] 82))
  go_enter Tryz.func92, Tryz.ntmps92
  go_wp2_with fail
  go_loopw [5] (fun i wr => ∃ (k : Nat) (b : List UInt8), k ≤ s.size ∧ i = .int .i64 k ∧ Bld wr w.heap.size b ∧ b.length ≤ k ∧ addQ b (qI (s.data.toList.drop k)) = Q ∧ Below w.heap.size w wr) (fun i _ => s.size - (intOf i).toNat)
  case atStart => exact ⟨1, [], h0, rfl, hbn.out, by simp, by rw [HQ.out]; cases Q <;> rfl, HB0.out⟩
  case round =>
    obtain ⟨k, b, hk, rfl, hbl, hln, hq, hb⟩ := hrel
    have HBL := Lib.hid hbl; have HB := Lib.hid hb
    have hsz := hb.size
    clear hb hbl
    by_cases hlt : k < s.size
    · have i1 : (k : Int) < (s.size : Int) := by omega
      have i0 : (0 : Int) ≤ (k : Int) := by omega
      have hdk := drop_at s k hlt
      rw [hdk] at hq
      by_cases h34 : s[k] = 34
      · have q34 : ((s[k].toNat : Int) == 34) = true := by rw [h34]; rfl
        rw [h34] at hq
        have i2 : (0 : Int) ≤ (k : Int) + 1 := by omega
        have j1 : ((k : Int) + 1).toNat = k + 1 := by omega
        by_cases hl2 : k + 1 < s.size
        · have i3 : (k : Int) + 1 < (s.size : Int) := by omega
          have hdk2 := drop_at s (k + 1) hl2
          rw [hdk2] at hq
          by_cases h342 : s[k + 1] = 34
          · have q342 : ((s[k + 1].toNat : Int) == 34) = true := by rw [h342]; rfl
            rw [h342, qI_two, addQ_cons] at hq
            have HQ2 := Lib.hid hq
            have HW := Lib.hid (bldByte w.heap.size b 34 wr HBL.out (by omega) hsz)
            clear hq hdk hdk2 h34 h342
            go_wp2_with fail
            refine HW.out.mono ?_; rintro e1 w1 ⟨rfl, hb1, hbb⟩
            go_wp2_with fail
            go_roundw
            case rel => exact ⟨k + 2, b ++ [34], by omega, by go_num, hb1, by rw [List.length_append]; simp only [List.length_cons, List.length_nil]; omega, HQ2.out, HB.out.trans hbb⟩
            case measure => simp [intOf]; omega
          · have q342 : ((s[k + 1].toNat : Int) == 34) = false := by rw [beq_eq_false_iff_ne]; exact fun e => h342 (u8_eq (by have : s[k + 1].toNat = 34 := (by omega); rw [this]; rfl))
            rw [← hdk2, qI_end _ (fun r e => by rw [hdk2] at e; injection e with e1 _; exact h342 e1)] at hq
            have HR := Lib.hid (show qIV s.size Q = .tuple #[.string ⟨b.toArray⟩, .int .i64 ((k : Int) + 1)] by
              rw [← hq]
              unfold addQ qIV
              simp only [Option.map_some, List.append_nil]
              rw [len_at s (k + 1) (by omega)]; rfl)
            have HT := Lib.hid (bldText w.heap.size b wr HBL.out hsz)
            clear hq hdk hdk2 h34 h342
            go_wp2_with fail
            refine HT.out.mono ?_; rintro e1 w1 ⟨rfl, hbb⟩
            go_wp2_with fail
            go_ret2
            exact ⟨by rw [HR.out]; rfl, HB.out.trans hbb⟩
        · have i3 : ¬ (k : Int) + 1 < (s.size : Int) := by omega
          have hk1 : k + 1 = s.size := by omega
          rw [List.drop_of_length_le (show s.data.toList.length ≤ k + 1 by rw [Array.length_toList]; show s.size ≤ k + 1; omega), qI_end [] (fun r e => by cases e)] at hq
          have HR := Lib.hid (show qIV s.size Q = .tuple #[.string ⟨b.toArray⟩, .int .i64 ((k : Int) + 1)] by
            rw [← hq]
            unfold addQ qIV
            simp only [Option.map_some, List.append_nil, List.length_nil, Nat.sub_zero]
            rw [← hk1]; rfl)
          have HT := Lib.hid (bldText w.heap.size b wr HBL.out hsz)
          have HK := Lib.hid hk1
          clear hq hdk h34 hk1
          go_wp2_with fail
          refine HT.out.mono ?_; rintro e1 w1 ⟨rfl, hbb⟩
          go_wp2_with fail
          go_ret2
          exact ⟨by rw [HR.out]; rfl, HB.out.trans hbb⟩
      · have q34 : ((s[k].toNat : Int) == 34) = false := by rw [beq_eq_false_iff_ne]; exact fun e => h34 (u8_eq (by have : s[k].toNat = 34 := (by omega); rw [this]; rfl))
        rw [qI_plain _ _ h34, addQ_cons] at hq
        have HQ2 := Lib.hid hq
        have HW := Lib.hid (bldByte w.heap.size b s[k] wr HBL.out (by omega) hsz)
        clear hq hdk h34
        go_wp2_with fail
        refine HW.out.mono ?_; rintro e1 w1 ⟨rfl, hb1, hbb⟩
        go_wp2_with fail
        go_roundw
        case rel => exact ⟨k + 1, b ++ [s[k]], by omega, by go_num, hb1, by rw [List.length_append]; simp only [List.length_cons, List.length_nil]; omega, HQ2.out, HB.out.trans hbb⟩
        case measure => simp [intOf]; omega
    · have i1 : ¬ (k : Int) < (s.size : Int) := by omega
      rw [List.drop_of_length_le (show s.data.toList.length ≤ k by rw [Array.length_toList]; show s.size ≤ k; omega)] at hq
      have HR := Lib.hid (show qIV s.size Q = .tuple #[.string ⟨#[]⟩, .int .i64 0] by rw [← hq]; rfl)
      clear hq
      go_wp2_with fail
      go_ret2
      exact ⟨by rw [HR.out]; rfl, HB.out⟩

theorem splitB_size (sep : ByteArray) (save : Nat) : ∀ (k : Nat) (s : ByteArray), ∀ x ∈ Lib.splitB sep save k s, x.size ≤ s.size
  | 0, s, x, hx => by rw [Lib.splitB_zero, List.mem_singleton] at hx; rw [hx]; exact Nat.le_refl _
  | k + 1, s, x, hx => by
    unfold Lib.splitB at hx
    split at hx
    · rw [List.mem_singleton] at hx; rw [hx]; exact Nat.le_refl _
    · rcases List.mem_cons.1 hx with h | h
      · rw [h, ByteArray.size_extract]; omega
      · have := splitB_size sep save k _ x h
        rw [ByteArray.size_extract] at this; omega
theorem byteI_mod (v : Int) : ∃ y : UInt8, y = byteI v ∧ v % 256 = (y.toNat : Int) := ⟨_, rfl, by unfold byteI; rw [UInt8.toNat_ofNat']; omega⟩

set_option maxHeartbeats 8000000 in
set_option maxRecDepth 100000 in
theorem scanBytes_any (s : ByteArray) (hs : s.size ≤ 1048576) (w : World) (hE : EnvR w) :
    Calls Tryz.prog 93 #[.string s] w fun e w' => e = .returned (.tuple #[.string ⟨(bI s.data.toList).1.toArray⟩, .string ⟨(bI s.data.toList).2.toArray⟩]) ∧ Below w.heap.size w w' := by
  obtain ⟨m, hm⟩ := hE.1.2
  have HC := Lib.hid (Tryz.strings_Cut s ⟨#[41]⟩ m w (by omega) hm)
  have HE := Lib.hid hE
  have hil : (Lib.cut s.data.toList [41]).1.length ≤ s.size := by
    unfold Lib.cut
    split
    · rw [List.length_take, len_list']; exact Nat.min_le_right _ _
    · rw [len_list']; exact Nat.le_refl _
  have HQ1 := Lib.hid (show (bI s.data.toList).1 = (wordsB ⟨(Lib.cut s.data.toList [41]).1.toArray⟩).map (fun w => byteI (atoiV w.data.toList)) from rfl)
  have HQ2 := Lib.hid (show (bI s.data.toList).2 = (Lib.cut s.data.toList [41]).2.1 from rfl)
  generalize (bI s.data.toList).1 = Q1 at *
  generalize (bI s.data.toList).2 = Q2 at *
  clear hE hm
  go_enter Tryz.func93, Tryz.ntmps93
  go_wp2_with fail
  refine HC.out.mono ?_; rintro e1 w1 ⟨rfl, nq, rfl⟩
  have hEd := Lib.hid (HE.out.below (below_drewN' w nq))
  have HBd := Lib.hid (below_drewN' w nq)
  generalize w.drewN nq = wa at *
  have HI : (⟨(Lib.cut s.data.toList [41]).1.toArray⟩ : ByteArray).size ≤ s.size := by
    show (Lib.cut s.data.toList [41]).1.toArray.size ≤ _
    rw [List.size_toArray]; exact hil
  have HCV := Lib.hid (show (Lib.cut s.data.toList (⟨#[41]⟩ : ByteArray).data.toList) = Lib.cut s.data.toList [41] from rfl)
  rw [HCV.out]
  generalize (⟨(Lib.cut s.data.toList [41]).1.toArray⟩ : ByteArray) = N at *
  have HQ2' := Lib.hid (show (⟨(Lib.cut s.data.toList [41]).2.1.toArray⟩ : ByteArray) = ⟨Q2.toArray⟩ by rw [HQ2.out])
  rw [HQ2'.out]
  generalize (Lib.cut s.data.toList [41]).2.2 = fnd at *
  obtain ⟨m2, hm2⟩ := hEd.out.1.2
  go_upto_region 3 with fail
  have hown0 : OwnR encB (wa.alloc (.cells #[] 5)) wa.heap.size 5 (.slice (some ⟨wa.heap.size, 0, none⟩) 0 0) [] := OwnR.none_ _ _ _ (Nat.le_refl _)
  have HO0 := Lib.hid hown0
  have HB0 := Lib.hid ((Below.refl wa.heap.size wa).alloc (Nat.le_refl _) (.cells #[] 5))
  have hEa := Lib.hid (hEd.out.below HB0.out)
  obtain ⟨m3, hm3⟩ := hEa.out.1.2
  have HSP := Lib.hid (Tryz.strings_Split N ⟨#[44]⟩ m3 _ (by omega) hm3 (by decide))
  have hwl : (wordsB N).length = Lib.countB N ⟨#[44]⟩ + 1 := Lib.splitB_all _ (by decide) 0 _ N rfl
  have hcn : Lib.countB N ⟨#[44]⟩ ≤ N.size := Lib.countB_le _ (by decide) _ N (Nat.le_refl _)
  have hsz0 : wa.heap.size < (wa.alloc (.cells #[] 5)).heap.size := by simp
  generalize hwb : wa.alloc (.cells #[] 5) = wb at *
  have HWB := Lib.hid hwb
  clear hwb hown0 hm2 hm3
  go_wp2_with fail
  refine HSP.out.mono ?_; rintro e2 w2 ⟨rfl, hw2⟩
  rw [← hwl]
  have HLZ := Lib.hid (fun x (hx : x ∈ wordsB N) => splitB_size _ _ _ N x hx)
  have HCE := Lib.hid (show ∀ k (x : ByteArray), (wordsB N)[k]? = some x → w2.cell? ⟨wb.heap.size, k, none⟩ = some (.string x) from fun k x hx => by
    rw [hw2]
    have := (Blk.new wb 9 ((wordsB N).map Value.string).toArray).cell k
    refine this.trans ?_
    rw [List.getElem?_toArray, List.getElem?_map, hx]; rfl)
  have HB2 := Lib.hid (show Below wb.heap.size wb w2 by rw [hw2]; exact (Below.refl _ _).alloc (Nat.le_refl _) _)
  have hsz2 : wb.heap.size < w2.heap.size := by rw [hw2]; simp
  have hll : (wordsB N).length ≤ 1048577 := by omega
  have hE2 := Lib.hid (hEa.out.below HB2.out)
  clear hw2 HSP hcn hwl HWB
  generalize wordsB N = L at *
  go_wp2_with fail
  go_loopw [7, 22] (fun v i wr => ∃ (k : Nat) (bs : List UInt8), k ≤ L.length ∧ i = .int .i64 k ∧ Grows encB wr w2.heap.size 5 (.slice (some ⟨wa.heap.size, 0, none⟩) 0 0) v bs ∧ bs.length = k ∧ bs = (L.take k).map (fun x => byteI (atoiV x.data.toList)) ∧ Below w2.heap.size w2 wr) (fun _ i _ => L.length - (intOf i).toNat)
  case atStart => exact ⟨0, [], Nat.zero_le _, rfl, Grows.start _ _ _ _, rfl, rfl, Below.refl _ _⟩
  case round =>
    obtain ⟨k, bs, hk, rfl, hg, hbl, hbs, hbr⟩ := hrel
    have HBR := Lib.hid hbr; have HBS := Lib.hid hbs
    have hszr := hbr.size
    clear hbs
    by_cases hlt : k < L.length
    · have i1 : (k : Int) < (L.length : Int) := by omega
      have i0 : (0 : Int) ≤ (k : Int) := by omega
      have hgk : L[k]? = some (L.getD k ByteArray.empty) := by rw [List.getD_eq_getElem?_getD, List.getElem?_eq_getElem hlt]; rfl
      have hcell : wr.cell? ⟨wb.heap.size, k, none⟩ = some (.string (L.getD k ByteArray.empty)) := (hbr.cell (p := ⟨wb.heap.size, k, none⟩) hsz2).trans (HCE.out k _ hgk)
      have hxs := HLZ.out _ (List.mem_of_getElem? hgk)
      have HAT := Lib.hid (atoi_any (L.getD k ByteArray.empty) (by omega) wr (hE2.out.below hbr))
      obtain ⟨y, hy, hmod⟩ := byteI_mod (atoiV (L.getD k ByteArray.empty).data.toList)
      have HNX := Lib.hid (show bs ++ [y] = (L.take (k + 1)).map (fun x => byteI (atoiV x.data.toList)) by
        rw [List.take_succ_eq_append_getElem hlt, List.map_append, ← HBS.out, hy, List.getD_eq_getElem?_getD, List.getElem?_eq_getElem hlt]; rfl)
      clear hbr hy hgk
      generalize atoiV (L.getD k ByteArray.empty).data.toList = V at *
      generalize L.getD k ByteArray.empty = X at *
      have hb2 : bs.length ≤ 2000000 := by omega
      go_wp2_with fail
      refine HAT.out.mono ?_; rintro e3 w3 ⟨⟨ev, rfl⟩, hb3⟩
      have hg3 : Grows encB w3 w2.heap.size 5 (.slice (some ⟨wa.heap.size, 0, none⟩) 0 0) u7 bs := by
        rcases hg with hg | hg
        · exact .inl (hg.below hb3)
        · exact .inr hg
      have hs3 := Nat.le_trans hszr hb3.size
      go_wp2_with (first
        | fail
        | (at_builtin; refine wpList_app1G (enc := encB) rfl (.tmp 31) (.tmp 34) 22 5 rfl Tryz.underlying22 rfl (by omega) (fun _ => rfl) infoByte w3 w2.heap.size _ _ bs y rfl hg3 rfl (by omega) hs3 ?_; intro v4 w4 hown4 hb4))
      go_roundw
      case rel => exact ⟨k + 1, _, by omega, by go_num, hown4, by rw [List.length_append, hbl]; rfl, HNX.out, HBR.out.trans ((hb3.mono hszr).trans hb4)⟩
      case measure => simp [intOf]; omega
    · have i1 : ¬ (k : Int) < (L.length : Int) := by omega
      have hown := Grows.done hg HO0.out (HB2.out.trans (HBR.out.mono HB2.out.size)) (Nat.le_trans (Nat.le_of_lt hsz0) HB2.out.size)
      have hcv := convert_own hown
      have HR1 := Lib.hid (show bs = Q1 by rw [HBS.out, HQ1.out, List.take_of_length_le (by omega)])
      go_wp2_with fail
      go_ret2
      exact ⟨by rw [← HR1.out]; rfl, HBd.out.trans ((HB0.out.trans ((HB2.out.trans (HBR.out.mono HB2.out.size)).mono HB0.out.size)).mono HBd.out.size)⟩
end Go.Proofs.YtfibjcaidnofmaaGreatDoor
