/- Reading an operation of two sites: what both readers guess of the words; one law. -/
import Derived.Test.YtcjaaknnfohllaaGreatDoorJoinRSAAp
import Derived.Test.YtcjaaknnfohllaaGreatDoorJoinRSAAj
import Derived.Test.YtcjaaknnfohllaaGreatDoorJoinRSAAk
import Derived.Test.YtcjaaknnfohllaaGreatDoorJoinRSAAa
namespace Go.Proofs.YtcjaaknnfohllaaGreatDoor
open Go.RowKit

abbrev eB : ByteArray := ByteArray.empty
def act0 : Act := ⟨0, 0, eB, eB, [], [], []⟩
def rdW (x : ByteArray) : ByteArray := mkB (rdI x.data.toList).1
def mainsW : List ByteArray := [wJob, wStep, wTick, wFlush, wPages, wCheck, wCrash]
def wiresW : List ByteArray := [wShip, wArrive, wLose, wTwice, wCopy, wSwitch]
def placeIn (x : ByteArray) : List ByteArray → Nat → Option Nat
  | [], _ => none
  | y :: L, k => if y = x then some k else placeIn x L (k + 1)
def jobS (w : List ByteArray) : Act :=
  if w.length < 3 then ⟨1, 0, eB, eB, [], [], []⟩
  else ⟨1, 0, w.getD 1 eB, w.getD 2 eB, ((w.drop 3).takeWhile (· ≠ wIn)).map rdW, (((w.drop 3).dropWhile (· ≠ wIn)).filter (· ≠ wIn)).map rdW, []⟩
def jobI (l : List ByteArray) : Act :=
  if l.length < 2 then ⟨1, 0, eB, eB, [], [], []⟩
  else ⟨1, 0, l.getD 0 eB, l.getD 1 eB, ((l.drop 2).takeWhile (· ≠ wIn)).map rdW, (((l.drop 2).dropWhile (· ≠ wIn)).drop 1).map rdW, []⟩
def okS (x : ByteArray) : Bool := (numS x).2
def valS (x : ByteArray) : Int := (numS x).1
def okI (x : ByteArray) : Bool := (numI x).2
def valI (x : ByteArray) : Int := (numI x).1
def guessS (w : List ByteArray) : Int × Int × Act :=
  match placeIn (w.getD 0 eB) mainsW 0 with
  | some k => (1, 0, if k = 0 then jobS w else ⟨(k : Int) + 1, if 1 < w.length then valS (w.getD 1 eB) else 0, eB, eB, [], [], if k = 6 then ((w.drop 2).filter okS).map valS else []⟩)
  | none => match placeIn (w.getD 0 eB) wiresW 0 with
    | some k => ((k : Int) + 2, if 1 < w.length then valS (w.getD 1 eB) else 0, act0)
    | none => (1, if 1 < w.length then valS (w.getD 1 eB) else 0, act0)
def mainI (kind : Int) (l : List ByteArray) : Act × Bool :=
  if kind = 1 then (jobI l, true)
  else if l.all okI then (⟨kind, (l.map valI).getD 0 0, eB, eB, [], [], (l.map valI).drop 1⟩, true)
  else (act0, false)
def guessI (w : List ByteArray) : (Int × Int × Act) × Bool :=
  match placeIn (w.getD 0 eB) mainsW 0 with
  | some k => ((1, 0, (mainI ((k : Int) + 1) (w.drop 1)).1), (mainI ((k : Int) + 1) (w.drop 1)).2)
  | none => match placeIn (w.getD 0 eB) wiresW 0 with
    | some k => if 1 < w.length then (((k : Int) + 2, valI (w.getD 1 eB), act0), okI (w.getD 1 eB)) else (((k : Int) + 2, 0, act0), true)
    | none => ((0, 0, act0), true)
/-- What the reference reads; what the program reads. -/
def rsS (s : ByteArray) : Option (Int × Int × Act) :=
  if 6000 < s.size then none
  else if wrds s = [] then none
  else if sitesB (guessS (wrds s)).1 (guessS (wrds s)).2.1 (guessS (wrds s)).2.2 = true ∧ joinW (outW (sitesW (guessS (wrds s)).1 (guessS (wrds s)).2.1 (guessS (wrds s)).2.2)) = s.data.toList then some (guessS (wrds s))
  else none
def rsI (s : ByteArray) : Option (Int × Int × Act) :=
  if wrds s = [] then none
  else if (guessI (wrds s)).2 = true ∧ sitesT (guessI (wrds s)).1.1 (guessI (wrds s)).1.2.1 (guessI (wrds s)).1.2.2 = s.data.toList then some (guessI (wrds s)).1
  else none

theorem plainW_in (y : ByteArray) : plainW y ≠ wIn := by
  intro e
  have h : plainP y.data.toList = [105, 110] := by
    have := congrArg (fun b : ByteArray => b.data.toList) e
    simpa [plainW, wIn] using this
  cases hc : canonB y.data.toList
  · by_cases hn : y.data.toList = []
    · unfold plainP at h
      rw [hc, hn] at h
      exact absurd h (by decide)
    · rw [plainP_runs hc hn] at h
      have hr : runOf y.data.toList ≠ [] := by
        cases hl : y.data.toList with
        | nil => exact absurd hl hn
        | cons c l => unfold runOf; simp
      rcases formP_first _ hr with e1 | e1 <;> (rw [e1] at h; injection h with h1 _; exact absurd h1 (by decide))
  · unfold plainP at h
    rw [hc, if_pos rfl] at h
    have := canonB_ch _ hc 105 (by rw [h]; exact List.mem_cons_self ..)
    exact absurd this (by decide)
theorem plainW_pos (y : ByteArray) : 1 ≤ (plainW y).size := by
  have := List.length_pos_iff.2 (plainP_ne y.data.toList)
  show 1 ≤ (plainP y.data.toList).toArray.size
  rw [List.size_toArray]; exact this
theorem decW_pos (n : Int) : 1 ≤ (decW n).size := by rw [decW_len]; exact itoa_ne n
theorem takeW (l z : List ByteArray) (hl : ∀ y ∈ l, y ≠ wIn) (hz : ∀ y r, z = y :: r → y = wIn) : (l ++ z).takeWhile (fun y => decide (y ≠ wIn)) = l ∧ (l ++ z).dropWhile (fun y => decide (y ≠ wIn)) = z := by
  induction l with
  | nil =>
    rw [List.nil_append]
    cases z with
    | nil => exact ⟨rfl, rfl⟩
    | cons y r =>
      have hy := hz y r rfl
      rw [List.takeWhile_cons, List.dropWhile_cons, if_neg (by simpa using hy), if_neg (by simpa using hy)]
      exact ⟨rfl, rfl⟩
  | cons y l ih =>
    have hy := hl y (List.mem_cons_self ..)
    obtain ⟨i1, i2⟩ := ih (fun z hz => hl z (List.mem_cons_of_mem _ hz))
    rw [List.cons_append, List.takeWhile_cons, List.dropWhile_cons, if_pos (by simpa using hy), if_pos (by simpa using hy), i1, i2]
    exact ⟨rfl, rfl⟩
theorem inW_head (l : List ByteArray) : ∀ y r, inW l = y :: r → y = wIn := by
  intro y r h
  unfold inW at h
  split at h
  · cases h
  · injection h with h _; exact h.symm
theorem inW_filter (l : List ByteArray) : (inW l).filter (fun y => decide (y ≠ wIn)) = l.map plainW := by
  unfold inW
  split
  · rename_i h; rw [h]; rfl
  · rw [List.filter_cons, if_neg (by simp), List.filter_eq_self]
    intro y hy
    obtain ⟨z, _, e⟩ := List.mem_map.1 hy
    rw [← e]
    simpa using plainW_in z
theorem inW_drop (l : List ByteArray) : (inW l).drop 1 = l.map plainW := by
  unfold inW
  split
  · rename_i h; rw [h]; rfl
  · rfl
theorem job_same (x : Act) : jobS (wJob :: jobW x) = ⟨1, 0, x.r, x.l, (x.args.map plainW).map rdW, (x.input.map plainW).map rdW, []⟩ ∧ jobI (jobW x) = ⟨1, 0, x.r, x.l, (x.args.map plainW).map rdW, (x.input.map plainW).map rdW, []⟩ := by
  obtain ⟨h1, h2⟩ := takeW (x.args.map plainW) (inW x.input) (fun y hy => by obtain ⟨z, _, e⟩ := List.mem_map.1 hy; rw [← e]; exact plainW_in z) (inW_head x.input)
  constructor
  · unfold jobS jobW
    rw [if_neg (by simp only [List.length_cons]; omega)]
    show Act.mk 1 0 x.r x.l (((x.args.map plainW ++ inW x.input).takeWhile (fun y => decide (y ≠ wIn))).map rdW) ((((x.args.map plainW ++ inW x.input).dropWhile (fun y => decide (y ≠ wIn))).filter (fun y => decide (y ≠ wIn))).map rdW) [] = _
    rw [h1, h2, inW_filter]
  · unfold jobI jobW
    rw [if_neg (by simp only [List.length_cons]; omega)]
    show Act.mk 1 0 x.r x.l (((x.args.map plainW ++ inW x.input).takeWhile (fun y => decide (y ≠ wIn))).map rdW) ((((x.args.map plainW ++ inW x.input).dropWhile (fun y => decide (y ≠ wIn))).drop 1).map rdW) [] = _
    rw [h1, h2, inW_drop]
theorem num_one {X : ByteArray} (h : okI X = true) : ([X] : List ByteArray).all okI = true := by
  rw [List.all_cons, h]; rfl
theorem valSI {X : ByteArray} (h : okS X = true) : okI X = true ∧ valI X = valS X := by
  have h1 := num_SI h
  unfold okI valI valS
  rw [h1]
  exact ⟨h, rfl⟩
theorem valIS {X : ByteArray} (h : okI X = true) : okS X = true ∧ valI X = valS X := by
  have h1 := num_IS h
  unfold okS valI valS
  rw [h1]
  exact ⟨h, rfl⟩
/-- One word and a number. -/
theorem guess_two (k : Nat) (hk : k = 1 ∨ k = 4) (X : ByteArray) : guessS [mainsW.getD k eB, X] = (1, 0, ⟨(k : Int) + 1, valS X, eB, eB, [], [], []⟩) ∧ guessI [mainsW.getD k eB, X] = ((1, 0, (mainI ((k : Int) + 1) [X]).1), (mainI ((k : Int) + 1) [X]).2) := by
  rcases hk with rfl | rfl <;> exact ⟨rfl, rfl⟩
theorem main_two (kind : Int) (hk : kind ≠ 1) (X : ByteArray) : mainI kind [X] = if okI X then (⟨kind, valI X, eB, eB, [], [], []⟩, true) else (act0, false) := by
  unfold mainI
  rw [if_neg hk]
  cases h : okI X
  · rw [if_neg (by rw [List.all_cons, h]; exact Bool.false_ne_true)]; rfl
  · rw [if_pos (num_one h)]; rfl
theorem agree_two (k : Nat) (hk : k = 1 ∨ k = 4) (at_ a : Int) (x : Act) (hx : x.a = a) :
    (guessS [mainsW.getD k eB, decW a] = (1, at_, x) → guessI [mainsW.getD k eB, decW a] = ((1, at_, x), true)) ∧
    (guessI [mainsW.getD k eB, decW a] = ((1, at_, x), true) → guessS [mainsW.getD k eB, decW a] = (1, at_, x) ∧ (decW a).size ≤ 8) := by
  obtain ⟨g1, g2⟩ := guess_two k hk (decW a)
  have hm := main_two ((k : Int) + 1) (by omega) (decW a)
  rw [g1, g2, hm]
  constructor
  · intro h
    simp only [Prod.mk.injEq] at h
    obtain ⟨_, h1, h2⟩ := h
    have ha : valS (decW a) = a := (congrArg Act.a h2).trans hx
    have hok : okS (decW a) = true := numS_same (by show decW (valS (decW a)) = _; rw [ha])
    obtain ⟨o1, o2⟩ := valSI hok
    rw [if_pos o1, o2, h2, h1]
  · intro h
    cases ho : okI (decW a)
    · rw [ho, if_neg Bool.false_ne_true] at h
      injection h with _ h; cases h
    · rw [ho, if_pos rfl] at h
      obtain ⟨_, o2⟩ := valIS ho
      simp only [Prod.mk.injEq] at h
      obtain ⟨⟨_, h1, h2⟩, _⟩ := h
      rw [o2] at h2
      rw [h2, h1]
      exact ⟨rfl, (numI_ok ho).2⟩
theorem wire_two (k : Nat) (hk : k = 1 ∨ k = 2 ∨ k = 3) (X : ByteArray) : guessS [wiresW.getD k eB, X] = ((k : Int) + 2, valS X, act0) ∧ guessI [wiresW.getD k eB, X] = (((k : Int) + 2, valI X, act0), okI X) := by
  rcases hk with rfl | rfl | rfl <;> exact ⟨rfl, rfl⟩
theorem agree_wire (k : Nat) (hk : k = 1 ∨ k = 2 ∨ k = 3) (kind a : Int) (x : Act) :
    (guessS [wiresW.getD k eB, decW a] = (kind, a, x) → guessI [wiresW.getD k eB, decW a] = ((kind, a, x), true)) ∧
    (guessI [wiresW.getD k eB, decW a] = ((kind, a, x), true) → guessS [wiresW.getD k eB, decW a] = (kind, a, x) ∧ (decW a).size ≤ 8) := by
  obtain ⟨g1, g2⟩ := wire_two k hk (decW a)
  rw [g1, g2]
  constructor
  · intro h
    simp only [Prod.mk.injEq] at h
    obtain ⟨h0, h1, h2⟩ := h
    have hok : okS (decW a) = true := numS_same (by show decW (valS (decW a)) = _; rw [h1])
    obtain ⟨o1, o2⟩ := valSI hok
    rw [o1, o2, h0, h1, h2]
  · intro h
    simp only [Prod.mk.injEq] at h
    obtain ⟨⟨h0, h1, h2⟩, ho⟩ := h
    obtain ⟨_, o2⟩ := valIS ho
    rw [← o2, h0, h1, h2]
    exact ⟨rfl, (numI_ok ho).2⟩
theorem filter_all {α : Type} (p : α → Bool) : ∀ l : List α, (l.filter p).length = l.length → ∀ y ∈ l, p y = true
  | [], _, y, hy => by cases hy
  | c :: l, h, y, hy => by
    have hle := List.length_filter_le p l
    rw [List.filter_cons] at h
    split at h
    · rename_i hc
      rcases List.mem_cons.1 hy with e | hy
      · rw [e]; exact hc
      · exact filter_all p l (by simpa using h) y hy
    · rw [List.length_cons] at h; omega
theorem agree_crash (at_ a : Int) (keep : List Int) (x : Act) (hx : x.a = a) (hk : x.keep = keep) :
    (guessS (wCrash :: (a :: keep).map decW) = (1, at_, x) → guessI (wCrash :: (a :: keep).map decW) = ((1, at_, x), true)) ∧
    (guessI (wCrash :: (a :: keep).map decW) = ((1, at_, x), true) → guessS (wCrash :: (a :: keep).map decW) = (1, at_, x) ∧ ∀ z ∈ a :: keep, (decW z).size ≤ 8) := by
  have g1 : guessS (wCrash :: (a :: keep).map decW) = (1, 0, ⟨7, valS (decW a), eB, eB, [], [], ((keep.map decW).filter okS).map valS⟩) := rfl
  have g2 : guessI (wCrash :: (a :: keep).map decW) = ((1, 0, (mainI 7 ((a :: keep).map decW)).1), (mainI 7 ((a :: keep).map decW)).2) := rfl
  rw [g1, g2]
  constructor
  · intro h
    simp only [Prod.mk.injEq] at h
    obtain ⟨_, h1, h2⟩ := h
    have ha : valS (decW a) = a := (congrArg Act.a h2).trans hx
    have hke : ((keep.map decW).filter okS).map valS = keep := (congrArg Act.keep h2).trans hk
    have hok : okS (decW a) = true := numS_same (by show decW (valS (decW a)) = _; rw [ha])
    have hall := filter_all okS (keep.map decW) (by
      have := congrArg List.length hke
      rw [List.length_map] at this
      rw [this, List.length_map])
    have hf : (keep.map decW).filter okS = keep.map decW := List.filter_eq_self.2 hall
    obtain ⟨o1, o2⟩ := valSI hok
    have hm : mainI 7 ((a :: keep).map decW) = (⟨7, valI (decW a), eB, eB, [], [], (keep.map decW).map valI⟩, true) := by
      unfold mainI
      rw [if_neg (by decide), if_pos]
      · rfl
      · rw [List.map_cons, List.all_cons, o1, Bool.true_and, List.all_eq_true]
        exact fun y hy => (valSI (hall y hy)).1
    have hmap : (keep.map decW).map valI = (keep.map decW).map valS := List.map_congr_left fun y hy => (valSI (hall y hy)).2
    rw [hm, o2, hmap]
    rw [hf] at h2
    rw [h2, h1]
  · intro h
    cases ho : ((a :: keep).map decW).all okI
    · have hm : mainI 7 ((a :: keep).map decW) = (act0, false) := by
        unfold mainI
        rw [if_neg (by decide), if_neg (by rw [ho]; exact Bool.false_ne_true)]
      rw [hm] at h
      injection h with _ h; cases h
    · have hm : mainI 7 ((a :: keep).map decW) = (⟨7, valI (decW a), eB, eB, [], [], (keep.map decW).map valI⟩, true) := by
        unfold mainI
        rw [if_neg (by decide), if_pos ho]
        rfl
      rw [hm] at h
      have hall := List.all_eq_true.1 ho
      have h0 := hall (decW a) (by rw [List.map_cons]; exact List.mem_cons_self ..)
      have hr : ∀ y ∈ keep.map decW, okI y = true := fun y hy => hall y (by rw [List.map_cons]; exact List.mem_cons_of_mem _ hy)
      have hf : (keep.map decW).filter okS = keep.map decW := List.filter_eq_self.2 fun y hy => (valIS (hr y hy)).1
      have hmap : (keep.map decW).map valI = (keep.map decW).map valS := List.map_congr_left fun y hy => (valIS (hr y hy)).2
      rw [(valIS h0).2, hmap] at h
      simp only [Prod.mk.injEq] at h
      obtain ⟨⟨_, h1, h2⟩, _⟩ := h
      rw [hf, h2, h1]
      exact ⟨rfl, fun z hz => (numI_ok (hall (decW z) (List.mem_map.2 ⟨z, hz, rfl⟩))).2⟩

/-- The two readers guess alike of the words of a right operation; how long such words are. -/
def sumW (L : List ByteArray) : Nat := (L.map fun x => x.size + 1).sum
theorem joinW_sum : ∀ L : List ByteArray, (joinW L).length ≤ sumW L
  | [] => Nat.zero_le _
  | [a] => by rw [joinW_one, len_list]; show a.size ≤ (a.size + 1) + 0; omega
  | a :: b :: L => by
    have ih := joinW_sum (b :: L)
    rw [joinW_two, List.length_append, List.length_cons, len_list]
    show _ ≤ (a.size + 1) + sumW (b :: L)
    omega
theorem sumW_le (L : List ByteArray) (n : Nat) (h : ∀ y ∈ L, y.size ≤ n) : sumW L ≤ (n + 1) * L.length := by
  induction L with
  | nil => exact Nat.zero_le _
  | cons a L ih =>
    have h1 := ih fun y hy => h y (List.mem_cons_of_mem _ hy)
    have h2 := h a (List.mem_cons_self ..)
    show (a.size + 1) + sumW L ≤ (n + 1) * (L.length + 1)
    rw [Nat.mul_add, Nat.mul_one]
    omega
theorem sumW_app (A B : List ByteArray) : sumW (A ++ B) = sumW A + sumW B := by
  unfold sumW
  rw [List.map_append, List.sum_append]
end Go.Proofs.YtcjaaknnfohllaaGreatDoor

/- Reading an operation of two sites: both readers read the same. -/
namespace Go.Proofs.YtcjaaknnfohllaaGreatDoor
open Go.RowKit

theorem moreP_tight : ∀ (n k : Nat) (l : List UInt8), l.length ≤ n → l.length ≤ k → 2 * (moreP k l).length ≤ 14 * l.length + 4 ∧ ((∀ c r, l = c :: r → showsC c = true) → 2 * (moreP k l).length ≤ 14 * l.length)
  | 0, k, l, hn, _ => by
    obtain rfl := List.eq_nil_of_length_eq_zero (Nat.le_zero.1 hn)
    rw [moreP_nil]; exact ⟨Nat.zero_le _, fun _ => Nat.zero_le _⟩
  | n + 1, k, l, hn, hk => by
    by_cases h : l = []
    · subst h; rw [moreP_nil]; exact ⟨Nat.zero_le _, fun _ => Nat.zero_le _⟩
    · have hlt := runRest_len l h
      have hsp := congrArg List.length (runs_split l h)
      rw [List.length_append] at hsp
      obtain ⟨i1, i2⟩ := moreP_tight n k (runRest l) (by omega) (by omega)
      rw [moreP_step k l h hk, List.length_cons, List.length_append]
      cases l with
      | nil => exact absurd rfl h
      | cons c r =>
        have hop : ∀ c' r', runRest (c :: r) = c' :: r' → showsC c' ≠ showsC c := by
          intro c' r' e
          have e2 : r.dropWhile (fun x => showsC x == showsC c) = c' :: r' := e
          have h3 := List.head?_dropWhile_not (fun x => showsC x == showsC c) r
          rw [e2] at h3
          simpa using h3
        have hr1 : 1 ≤ (runOf (c :: r)).length := by show 1 ≤ (_ :: _ : List UInt8).length; rw [List.length_cons]; omega
        cases hs : showsC c
        · have hf : (formP (runOf (c :: r))).length ≤ 4 * (runOf (c :: r)).length + 4 := by
            have hf0 : formP (runOf (c :: r)) = codesP (runOf (c :: r)) := if_neg (by rw [hs]; exact Bool.false_ne_true)
            rw [hf0]
            have h4 := codesTo_len _ (runOf (c :: r)) rfl
            show (36 :: 67 :: 40 :: (codesTo (runOf (c :: r)) ++ [41])).length ≤ _
            simp only [List.length_cons, List.length_append, List.length_nil]
            omega
          have i3 := i2 (fun c' r' e => by
            have := hop c' r' e
            rw [hs] at this
            cases hc : showsC c'
            · exact absurd hc this
            · rfl)
          refine ⟨by omega, fun hsh => ?_⟩
          have := hsh c r rfl
          rw [hs] at this; cases this
        · have hf : (formP (runOf (c :: r))).length ≤ 2 * (runOf (c :: r)).length + 2 := by
            have hf0 : formP (runOf (c :: r)) = quoteP (runOf (c :: r)) := if_pos hs
            rw [hf0]
            have h4 := doubled_len (runOf (c :: r))
            show (34 :: (doubled (runOf (c :: r)) ++ [34])).length ≤ _
            simp only [List.length_cons, List.length_append, List.length_nil]
            omega
          exact ⟨by omega, fun _ => by omega⟩
theorem plainP_tight (l : List UInt8) : (plainP l).length ≤ 7 * l.length + 2 := by
  cases hc : canonB l
  · by_cases h : l = []
    · subst h
      unfold plainP
      rw [hc]
      exact Nat.le_refl _
    · have h1 := (moreP_tight l.length l.length l (Nat.le_refl _) (Nat.le_refl _)).1
      have h2 := moreP_step l.length l h (Nat.le_refl _)
      rw [plainP_runs hc h]
      rw [h2, List.length_cons] at h1
      omega
  · unfold plainP
    rw [hc, if_pos rfl]
    omega
theorem plainW_tight (y : ByteArray) (h : y.size ≤ 64) : (plainW y).size ≤ 450 := by
  have := plainP_tight y.data.toList
  rw [len_list] at this
  show (plainP y.data.toList).toArray.size ≤ _
  rw [List.size_toArray]
  omega
theorem sumW_job (x : Act) (h1 : x.r.size ≤ 8) (h2 : x.l.size ≤ 8) (h3 : x.args.length ≤ 5) (h4 : x.input.length ≤ 8) (h5 : ∀ y ∈ x.args, y.size ≤ 64) (h6 : ∀ y ∈ x.input, y.size ≤ 64) : sumW (wJob :: jobW x) ≤ 6000 := by
  have hp : ∀ (L : List ByteArray), (∀ y ∈ L, y.size ≤ 64) → sumW (L.map plainW) ≤ 451 * L.length := fun L hL => by
    have := sumW_le (L.map plainW) 450 (fun y hy => by obtain ⟨z, hz, e⟩ := List.mem_map.1 hy; rw [← e]; exact plainW_tight z (hL z hz))
    rw [List.length_map] at this
    exact this
  have ha := hp x.args h5
  have hi := hp x.input h6
  have hin : sumW (inW x.input) ≤ 3 + sumW (x.input.map plainW) := by
    unfold inW
    split
    · exact Nat.zero_le _
    · exact Nat.le_refl _
  have hj : sumW (wJob :: jobW x) = 4 + ((x.r.size + 1) + ((x.l.size + 1) + sumW (x.args.map plainW ++ inW x.input))) := rfl
  rw [hj, sumW_app]
  omega
theorem sumW_two (a b : ByteArray) (ha : a.size ≤ 8) (hb : b.size ≤ 8) : sumW [a, b] ≤ 6000 := by
  show (a.size + 1) + ((b.size + 1) + 0) ≤ _; omega
theorem sumW_one (a : ByteArray) (ha : a.size ≤ 8) : sumW [a] ≤ 6000 := by
  show (a.size + 1) + 0 ≤ _; omega

theorem agree (kind at_ : Int) (x : Act) (hS : sitesB kind at_ x = true) :
    (guessS (sitesW kind at_ x) = (kind, at_, x) → guessI (sitesW kind at_ x) = ((kind, at_, x), true)) ∧
    (guessI (sitesW kind at_ x) = ((kind, at_, x), true) → guessS (sitesW kind at_ x) = (kind, at_, x) ∧ sumW (sitesW kind at_ x) ≤ 6000) := by
  rcases sitesB_cases hS with ⟨rfl, hB⟩ | ⟨hk, h1, h2⟩ | hk
  · have hW : sitesW 1 at_ x = mainW x := if_pos rfl
    rw [hW]
    rcases actB_cases hB with ⟨k1, h1, h2, _, _, h3, h4, h5, h6⟩ | ⟨hk, h1, h2⟩ | ⟨k7, h1, h2, h3, h4⟩
    · rw [mainW_job k1]
      obtain ⟨j1, j2⟩ := job_same x
      have g1 : guessS (wJob :: jobW x) = (1, 0, jobS (wJob :: jobW x)) := rfl
      have g2 : guessI (wJob :: jobW x) = ((1, 0, jobI (jobW x)), true) := rfl
      rw [g1, g2, j1, j2]
      exact ⟨fun h => by rw [h], fun h => ⟨by injection h, sumW_job x h1 h2 h3 h4 h5 h6⟩⟩
    · rw [mainW_few hk]
      rcases hk with hk | hk | hk | hk | hk
      · rw [hk]
        obtain ⟨a1, a2⟩ := agree_two 1 (.inl rfl) at_ x.a x rfl
        exact ⟨a1, fun h => ⟨(a2 h).1, sumW_two wStep _ (by decide) (a2 h).2⟩⟩
      · rw [hk]
        have g1 : guessS (fewW 3 x.a) = (1, 0, ⟨3, 0, eB, eB, [], [], []⟩) := rfl
        have g2 : guessI (fewW 3 x.a) = ((1, 0, ⟨3, 0, eB, eB, [], [], []⟩), true) := rfl
        rw [g1, g2]
        exact ⟨fun h => by rw [h], fun h => ⟨by injection h, sumW_one wTick (by decide)⟩⟩
      · rw [hk]
        have g1 : guessS (fewW 4 x.a) = (1, 0, ⟨4, 0, eB, eB, [], [], []⟩) := rfl
        have g2 : guessI (fewW 4 x.a) = ((1, 0, ⟨4, 0, eB, eB, [], [], []⟩), true) := rfl
        rw [g1, g2]
        exact ⟨fun h => by rw [h], fun h => ⟨by injection h, sumW_one wFlush (by decide)⟩⟩
      · rw [hk]
        obtain ⟨a1, a2⟩ := agree_two 4 (.inr rfl) at_ x.a x rfl
        exact ⟨a1, fun h => ⟨(a2 h).1, sumW_two wPages _ (by decide) (a2 h).2⟩⟩
      · rw [hk]
        have g1 : guessS (fewW 6 x.a) = (1, 0, ⟨6, 0, eB, eB, [], [], []⟩) := rfl
        have g2 : guessI (fewW 6 x.a) = ((1, 0, ⟨6, 0, eB, eB, [], [], []⟩), true) := rfl
        rw [g1, g2]
        exact ⟨fun h => by rw [h], fun h => ⟨by injection h, sumW_one wCheck (by decide)⟩⟩
    · rw [mainW_crash k7]
      obtain ⟨a1, a2⟩ := agree_crash at_ x.a x.keep x rfl rfl
      refine ⟨a1, fun h => ⟨(a2 h).1, ?_⟩⟩
      have hs := (a2 h).2
      have := sumW_le ((x.a :: x.keep).map decW) 8 (fun y hy => by obtain ⟨z, hz, e⟩ := List.mem_map.1 hy; rw [← e]; exact hs z hz)
      rw [List.length_map, List.length_cons] at this
      show (5 + 1) + sumW ((x.a :: x.keep).map decW) ≤ _
      omega
  · rcases hk with rfl | rfl | rfl
    · obtain ⟨a1, a2⟩ := agree_wire 1 (.inl rfl) 3 at_ x
      exact ⟨a1, fun h => ⟨(a2 h).1, sumW_two wArrive _ (by decide) (a2 h).2⟩⟩
    · obtain ⟨a1, a2⟩ := agree_wire 2 (.inr (.inl rfl)) 4 at_ x
      exact ⟨a1, fun h => ⟨(a2 h).1, sumW_two wLose _ (by decide) (a2 h).2⟩⟩
    · obtain ⟨a1, a2⟩ := agree_wire 3 (.inr (.inr rfl)) 5 at_ x
      exact ⟨a1, fun h => ⟨(a2 h).1, sumW_two wTwice _ (by decide) (a2 h).2⟩⟩
  · rcases hk with rfl | rfl | rfl
    · have g1 : guessS (sitesW 2 at_ x) = (2, 0, act0) := rfl
      have g2 : guessI (sitesW 2 at_ x) = ((2, 0, act0), true) := rfl
      rw [g1, g2]
      exact ⟨fun h => by rw [h], fun h => ⟨by injection h, sumW_one wShip (by decide)⟩⟩
    · have g1 : guessS (sitesW 6 at_ x) = (6, 0, act0) := rfl
      have g2 : guessI (sitesW 6 at_ x) = ((6, 0, act0), true) := rfl
      rw [g1, g2]
      exact ⟨fun h => by rw [h], fun h => ⟨by injection h, sumW_one wCopy (by decide)⟩⟩
    · have g1 : guessS (sitesW 7 at_ x) = (7, 0, act0) := rfl
      have g2 : guessI (sitesW 7 at_ x) = ((7, 0, act0), true) := rfl
      rw [g1, g2]
      exact ⟨fun h => by rw [h], fun h => ⟨by injection h, sumW_one wSwitch (by decide)⟩⟩

theorem name_pos {s : ByteArray} (h : nameB s = true) : 1 ≤ s.size := by
  unfold nameB at h
  simp only [Bool.and_eq_true, decide_eq_true_eq] at h
  exact h.1.1
theorem sites_pos {kind at_ : Int} {x : Act} (hS : sitesB kind at_ x = true) : ∀ y ∈ sitesW kind at_ x, 1 ≤ y.size := by
  have two : ∀ (a b : ByteArray), 1 ≤ a.size → 1 ≤ b.size → ∀ y ∈ [a, b], 1 ≤ y.size := fun a b ha hb y hy => by
    rcases List.mem_cons.1 hy with e | hy
    · rw [e]; exact ha
    · rw [List.mem_singleton.1 hy]; exact hb
  have one : ∀ (a : ByteArray), 1 ≤ a.size → ∀ y ∈ [a], 1 ≤ y.size := fun a ha y hy => by rw [List.mem_singleton.1 hy]; exact ha
  rcases sitesB_cases hS with ⟨rfl, hB⟩ | ⟨hk, h1, h2⟩ | hk
  · have hW : sitesW 1 at_ x = mainW x := if_pos rfl
    rw [hW]
    rcases actB_cases hB with ⟨k1, _, _, n1, n2, _⟩ | ⟨hk, _⟩ | ⟨k7, _⟩
    · rw [mainW_job k1]
      intro y hy
      rcases List.mem_cons.1 hy with e | hy
      · rw [e]; decide
      · rcases List.mem_cons.1 hy with e | hy
        · rw [e]; exact name_pos n1
        · rcases List.mem_cons.1 hy with e | hy
          · rw [e]; exact name_pos n2
          · rcases List.mem_append.1 hy with hy | hy
            · obtain ⟨z, _, e⟩ := List.mem_map.1 hy
              rw [← e]; exact plainW_pos z
            · unfold inW at hy
              split at hy
              · cases hy
              · rcases List.mem_cons.1 hy with e | hy
                · rw [e]; decide
                · obtain ⟨z, _, e⟩ := List.mem_map.1 hy
                  rw [← e]; exact plainW_pos z
    · rw [mainW_few hk]
      rcases hk with hk | hk | hk | hk | hk <;> rw [hk]
      · exact two wStep _ (by decide) (decW_pos _)
      · exact one wTick (by decide)
      · exact one wFlush (by decide)
      · exact two wPages _ (by decide) (decW_pos _)
      · exact one wCheck (by decide)
    · rw [mainW_crash k7]
      intro y hy
      rcases List.mem_cons.1 hy with e | hy
      · rw [e]; decide
      · obtain ⟨z, _, e⟩ := List.mem_map.1 hy
        rw [← e]; exact decW_pos z
  · rcases hk with rfl | rfl | rfl
    · exact two wArrive _ (by decide) (decW_pos _)
    · exact two wLose _ (by decide) (decW_pos _)
    · exact two wTwice _ (by decide) (decW_pos _)
  · rcases hk with rfl | rfl | rfl
    · exact one wShip (by decide)
    · exact one wCopy (by decide)
    · exact one wSwitch (by decide)

theorem wrds_none (s : ByteArray) (h : s.data.toList = []) : wrds s = [] := by
  have : s = ⟨#[]⟩ := by
    rw [← mkB_data s, h]; rfl
  rw [this]; rfl
/-- The text of a right operation: its words. -/
theorem valid_words {kind at_ : Int} {x : Act} {s : ByteArray} (hS : sitesB kind at_ x = true) (hT : sitesT kind at_ x = s.data.toList) (h0 : s.data.toList ≠ []) :
    (sitesW kind at_ x).all noSp = true ∧ joinW (sitesW kind at_ x) = s.data.toList ∧ wrds s = sitesW kind at_ x := by
  unfold sitesT at hT
  rw [if_pos hS] at hT
  cases hn : (sitesW kind at_ x).all noSp
  · rw [hn, if_neg Bool.false_ne_true] at hT
    exact absurd hT.symm h0
  · rw [hn, if_pos rfl] at hT
    refine ⟨rfl, hT, words_join s _ hT (fun e => ?_) hn (sites_pos hS)⟩
    rw [e] at hT
    exact h0 hT.symm
theorem rs_IS (s : ByteArray) (g : Int × Int × Act) (h : rsI s = some g) : rsS s = some g := by
  unfold rsI at h
  split at h
  · cases h
  · rename_i hw
    have h0 : s.data.toList ≠ [] := fun e => hw (wrds_none s e)
    split at h
    · rename_i hc
      injection h with h
      obtain ⟨kind, at_, x⟩ := g
      have hg : guessI (wrds s) = ((kind, at_, x), true) := Prod.ext h hc.1
      have hT := hc.2
      rw [h] at hT
      have hS : sitesB kind at_ x = true := by
        cases hb : sitesB kind at_ x
        · have hT2 : sitesT kind at_ x = s.data.toList := hT
          unfold sitesT at hT2
          rw [hb, if_neg Bool.false_ne_true] at hT2
          exact absurd hT2.symm h0
        · rfl
      obtain ⟨v1, v2, v3⟩ := valid_words hS hT h0
      rw [v3] at hg
      obtain ⟨a1, a2⟩ := (agree kind at_ x hS).2 hg
      have hlen := joinW_sum (sitesW kind at_ x)
      rw [v2, len_list] at hlen
      unfold rsS
      rw [if_neg (by omega), if_neg hw, v3, a1]
      refine if_pos ⟨hS, ?_⟩
      show joinW (outW (sitesW kind at_ x)) = _
      unfold outW
      rw [if_pos v1]
      exact v2
    · cases h
theorem rs_SI (s : ByteArray) (g : Int × Int × Act) (h : rsS s = some g) : rsI s = some g := by
  unfold rsS at h
  split at h
  · cases h
  · split at h
    · cases h
    · rename_i hw
      have h0 : s.data.toList ≠ [] := fun e => hw (wrds_none s e)
      split at h
      · rename_i hc
        injection h with h
        obtain ⟨kind, at_, x⟩ := g
        rw [h] at hc
        obtain ⟨hS, hT⟩ := hc
        have hT2 : sitesT kind at_ x = s.data.toList := (sitesT_outW hS).trans hT
        obtain ⟨v1, v2, v3⟩ := valid_words hS hT2 h0
        rw [v3] at h
        have a1 := (agree kind at_ x hS).1 h
        unfold rsI
        rw [if_neg hw, v3, a1]
        exact if_pos ⟨rfl, hT2⟩
      · cases h
theorem rs_same (s : ByteArray) : rsS s = rsI s := by
  cases h : rsI s with
  | some g => exact rs_IS s g h
  | none =>
    cases h2 : rsS s with
    | none => rfl
    | some g => rw [rs_SI s g h2] at h; cases h
/-- What is read is right. -/
theorem rs_ok (s : ByteArray) (kind at_ : Int) (x : Act) (h : rsI s = some (kind, at_, x)) : sitesB kind at_ x = true := by
  have h2 := rs_IS s _ h
  unfold rsS at h2
  split at h2
  · cases h2
  · split at h2
    · cases h2
    · split at h2
      · rename_i hc
        injection h2 with h2
        rw [h2] at hc
        exact hc.1
      · cases h2
end Go.Proofs.YtcjaaknnfohllaaGreatDoor

/- The reference's reading of an operation walked: numbers, places. -/
namespace Go.Proofs.YtcjaaknnfohllaaGreatDoor
open Go.RowKit

theorem valD_snoc : ∀ (l : List UInt8) (n : Nat) (c : UInt8), valD n (l ++ [c]) = if isDig c then 10 * valD n l + dg c else valD n l
  | [], n, c => by rw [List.nil_append, valD, valD, valD]
  | d :: l, n, c => by rw [List.cons_append, valD, valD_snoc l _ c, valD]
theorem num_head (x : ByteArray) (h : 0 < x.size) : x.data.toList.head? = some x[0] := by
  rw [List.head?_eq_getElem?]
  exact get_list x 0 h
theorem valD_full (x : ByteArray) : valD 0 (x.data.toList.take x.size) = valD 0 x.data.toList := by
  rw [List.take_of_length_le (by rw [len_list]; exact Nat.le_refl _)]

theorem beq_dec (a b : ByteArray) : (a.toList == b.toList) = decide (a = b) := by
  rw [Bool.eq_iff_iff, beq_iff_eq, decide_eq_true_iff]
  exact bytes_toList_inj

set_option maxHeartbeats 4000000 in
set_option maxRecDepth 100000 in
theorem l34Number_any (x : ByteArray) (w : World) : Calls Tryz.prog 170 #[.string x] w fun e w' => e = .returned (.tuple #[.int .i64 (numS x).1, .bool (numS x).2]) ∧ Below w.heap.size w w' := by
  have HD0 := Lib.hid (fun n h1 h2 W => decS_any n h1 h2 W)
  by_cases h0 : x.size = 0
  · have HR := Lib.hid (show numS x = (0, false) from if_pos (.inl h0))
    rw [HR.out]
    have i0 : ((x.size : Int) == 0) = true := by rw [beq_iff_eq]; omega
    have H0 := Lib.hid h0; clear h0
    go_enter Tryz.func170, Tryz.ntmps170
    go_wp2_with fail
    go_ret2
    exact ⟨rfl, Below.refl _ _⟩
  · have i0 : ((x.size : Int) == 0) = false := by rw [beq_eq_false_iff_ne]; omega
    by_cases h8 : 8 < x.size
    · have HR := Lib.hid (show numS x = (0, false) from if_pos (.inr h8))
      rw [HR.out]
      have i8 : (8 : Int) < (x.size : Int) := by omega
      have H0 := Lib.hid h0; clear h0
      go_enter Tryz.func170, Tryz.ntmps170
      go_wp2_with fail
      go_ret2
      exact ⟨rfl, Below.refl _ _⟩
    · have HR := Lib.hid (show numS x = (nS x, decide (decW (nS x) = x)) from if_neg (by omega))
      rw [HR.out]
      have i8 : ¬ (8 : Int) < (x.size : Int) := by omega
      have hpos : 0 < x.size := by omega
      have HNS := Lib.hid (show nS x = if x.data.toList.head? = some 45 then -((valD 0 x.data.toList : Nat) : Int) else ((valD 0 x.data.toList : Nat) : Int) from rfl)
      have HHD := Lib.hid (num_head x hpos)
      have HFL := Lib.hid (valD_full x)
      have H0 := Lib.hid h0; clear h0
      generalize nS x = N at *
      go_enter Tryz.func170, Tryz.ntmps170
      go_wp2_with fail
      go_loop [4, 5] (fun v i => ∃ k : Nat, k ≤ x.size ∧ i = .int .i64 k ∧ v = .int .i64 (valD 0 (x.data.toList.take k) : Nat) ∧ valD 0 (x.data.toList.take k) < 10 ^ k) (fun _ i => x.size - (intOf i).toNat)
      case atStart => exact ⟨0, Nat.zero_le _, rfl, rfl, Nat.one_pos⟩
      case round =>
        obtain ⟨k, hk, rfl, rfl, hlt10⟩ := hrel
        have hbd : valD 0 (x.data.toList.take k) < 100000000 := Nat.lt_of_lt_of_le hlt10 (Nat.pow_le_pow_right (by decide) (by omega : k ≤ 8))
        by_cases hlt : k < x.size
        · have j1 : (k : Int) < (x.size : Int) := by omega
          have j0 : (0 : Int) ≤ (k : Int) := by omega
          have HTK := Lib.hid (show valD 0 (x.data.toList.take (k + 1)) = if isDig x[k] then 10 * valD 0 (x.data.toList.take k) + dg x[k] else valD 0 (x.data.toList.take k) by
            rw [take_snoc' _ _ _ (get_list x k hlt), valD_snoc])
          have HL10 := Lib.hid hlt10
          generalize valD 0 (x.data.toList.take k) = V at *
          clear hlt10
          cases hd : isDig x[k]
          · rw [hd] at HTK
            have HV := Lib.hid (show valD 0 (x.data.toList.take (k + 1)) = V from HTK.out)
            unfold isDig at hd
            rw [decide_eq_false_iff_not] at hd
            by_cases h48 : 48 ≤ x[k].toNat
            · have c1 : (48 : Int) ≤ (x[k].toNat : Int) := by omega
              have c2 : ¬ (x[k].toNat : Int) ≤ 57 := by omega
              clear hd
              go_wp2_with fail
              go_round
              case rel => exact ⟨k + 1, by omega, by go_num, by rw [HV.out], by rw [HV.out, Nat.pow_succ]; have := HL10.out; omega⟩
              case measure => simp [intOf]; omega
            · have c1 : ¬ (48 : Int) ≤ (x[k].toNat : Int) := by omega
              have kd : decide ((48 : Int) ≤ (x[k].toNat : Int)) = false := decide_eq_false c1
              have kd' : decide (48 ≤ x[k].toNat) = false := decide_eq_false h48
              clear hd
              go_wp2_with fail
              go_round
              case rel => exact ⟨k + 1, by omega, by go_num, by rw [HV.out], by rw [HV.out, Nat.pow_succ]; have := HL10.out; omega⟩
              case measure => simp [intOf]; omega
          · rw [hd, if_pos rfl] at HTK
            have h9 := dg_le hd
            have hdv : ((x[k].toNat : Int) - 48) = (dg x[k] : Int) := by unfold isDig at hd; unfold dg; simp only [decide_eq_true_eq] at hd; omega
            have c1 : (48 : Int) ≤ (x[k].toNat : Int) := by unfold isDig at hd; simp only [decide_eq_true_eq] at hd; omega
            have c2 : (x[k].toNat : Int) ≤ 57 := by unfold isDig at hd; simp only [decide_eq_true_eq] at hd; omega
            clear hd
            have hwr : IntKind.i64.wrap (dg x[k] : Int) = (dg x[k] : Int) := IntWalk.i64_in _ (by omega)
            have hw1 : IntKind.i64.wrap (10 * (V : Int)) = 10 * (V : Int) := IntWalk.i64_in _ (by omega)
            have hw2 : IntKind.i64.wrap (10 * (V : Int) + (dg x[k] : Int)) = 10 * (V : Int) + (dg x[k] : Int) := IntWalk.i64_in _ (by omega)
            generalize dg x[k] = dd at *
            go_wp2_with fail
            go_round
            case rel => exact ⟨k + 1, by omega, by go_num, by rw [HTK.out]; simp, by rw [HTK.out, Nat.pow_succ]; have := HL10.out; omega⟩
            case measure => simp [intOf]; omega
        · have j1 : ¬ (k : Int) < (x.size : Int) := by omega
          obtain rfl : k = x.size := by omega
          rw [HFL.out] at hbd
          rw [HHD.out] at HNS
          rw [HFL.out]
          generalize valD 0 x.data.toList = V at *
          have j2 : (0 : Int) < (x.size : Int) := by omega
          clear hlt10 HFL
          by_cases h45 : x[0].toNat = 45
          · have hc : x[0] = 45 := u8_eq h45
            have q45 : ((x[0].toNat : Int) == 45) = true := by rw [beq_iff_eq]; omega
            have HN := Lib.hid (show N = -(V : Int) by rw [HNS.out, if_pos (by rw [hc])])
            have HD := Lib.hid (fun W => HD0.out (-(V : Int)) (by omega) (by omega) W)
            have hwn : IntKind.i64.wrap (-(V : Int)) = -(V : Int) := IntWalk.i64_in _ (by omega)
            have HC := Lib.hid hc; have H45 := Lib.hid h45
            clear hc h45 HNS HHD
            go_wp2_with fail
            refine (HD.out _).mono ?_; rintro e1 w1 ⟨rfl, hb1⟩
            go_wp2_with fail
            go_ret2
            exact ⟨by rw [HN.out, ← beq_dec]; rfl, hb1⟩
          · have hc : x[0] ≠ 45 := fun e => h45 (by rw [e]; rfl)
            have q45 : ((x[0].toNat : Int) == 45) = false := by rw [beq_eq_false_iff_ne]; omega
            have HN := Lib.hid (show N = (V : Int) by rw [HNS.out, if_neg (by intro e; exact hc (Option.some.inj e))])
            have HD := Lib.hid (fun W => HD0.out (V : Int) (by omega) (by omega) W)
            have HC := Lib.hid hc; have H45 := Lib.hid h45
            clear hc h45 HNS HHD
            go_wp2_with fail
            refine (HD.out _).mono ?_; rintro e1 w1 ⟨rfl, hb1⟩
            go_wp2_with fail
            go_ret2
            exact ⟨by rw [HN.out, ← beq_dec]; rfl, hb1⟩

theorem Grows.over {α : Type} {enc : α → Value} {w w' : World} {base : Nat} {t : TypeId} {v0 v : Value} {xs : List α} (h : Grows enc w base t v0 v xs) (hb : Below w.heap.size w w') : Grows enc w' base t v0 v xs := by
  rcases h with h | h
  · exact .inl (h.below hb)
  · exact .inr h
theorem drop_one (xs : List ByteArray) (k : Nat) (h : k < xs.length) : xs.drop k = xs.getD k ByteArray.empty :: xs.drop (k + 1) := by
  rw [List.drop_eq_getElem_cons h, List.getD_eq_getElem?_getD, List.getElem?_eq_getElem h]
  rfl
def placeZ (o : Option Nat) : Int := match o with
  | some k => k
  | none => -1
set_option maxHeartbeats 4000000 in
theorem l29Place_any (A : Option Addr) (n c lo hi : Nat) (xs : List ByteArray) (x : ByteArray) (w : World) (ha : StrR w lo hi A n xs) (hn : n ≤ 1048576) :
    Calls Tryz.prog 171 #[.slice A n c, .string x] w fun e w' => e = .returned (.int .i64 (placeZ (placeIn x xs 0))) ∧ w = w' := by
  have hl := ha.1
  subst hl
  generalize hQ : placeIn x xs 0 = Q at *
  have HQ := Lib.hid hQ; clear hQ
  go_enter Tryz.func171, Tryz.ntmps171
  go_wp2_with fail
  go_loop [5] (fun i => ∃ k : Nat, k ≤ xs.length ∧ i = .int .i64 k ∧ placeIn x (xs.drop k) k = Q) (fun i => xs.length - (intOf i).toNat)
  case atStart => exact ⟨0, Nat.zero_le _, rfl, by rw [List.drop_zero]; exact HQ.out⟩
  case round =>
    obtain ⟨k, hk, rfl, hq⟩ := hrel
    by_cases hlt : k < xs.length
    · obtain ⟨b, off, rfl, _, _, hcell⟩ := ha.at_ hlt
      rw [drop_one xs k hlt, placeIn] at hq
      generalize xs.getD k ByteArray.empty = Y at *
      by_cases he : Y = x
      · rw [if_pos he] at hq
        have HF := Lib.hid (show placeZ Q = (k : Int) by rw [← hq]; rfl)
        have hb : (Y.toList == x.toList) = true := by rw [beq_dec, decide_eq_true he]
        have HE := Lib.hid he
        clear hq ha he
        go_wp2_with fail
        go_ret
        exact ⟨by rw [HF.out]; rfl, rfl⟩
      · rw [if_neg he] at hq
        have HQ2 := Lib.hid hq
        have hb : (Y.toList == x.toList) = false := by rw [beq_dec, decide_eq_false he]
        have HE := Lib.hid he
        clear hq ha he
        go_wp2_with fail
        go_round
        case rel => exact ⟨k + 1, by omega, by go_num, HQ2.out⟩
        case measure => simp [intOf]; omega
    · obtain rfl : k = xs.length := by omega
      rw [List.drop_of_length_le (Nat.le_refl _), placeIn] at hq
      have HF := Lib.hid (show placeZ Q = -1 by rw [← hq]; rfl)
      clear hq ha
      go_wp2_with fail
      go_ret
      exact ⟨by rw [HF.out]; rfl, rfl⟩

theorem nums_more (xs : List ByteArray) (k : Nat) (h : k < xs.length) : ((xs.take (k + 1)).filter okS).map valS = ((xs.take k).filter okS).map valS ++ (if okS (xs.getD k ByteArray.empty) then [valS (xs.getD k ByteArray.empty)] else []) := by
  rw [take_one_more xs ByteArray.empty k h, List.filter_append, List.map_append]
  congr 1
  rw [List.filter_cons]
  split <;> rfl
set_option maxHeartbeats 4000000 in
set_option maxRecDepth 100000 in
theorem l34Numbers_any (A : Option Addr) (n c lo hi : Nat) (xs : List ByteArray) (w : World) (ha : StrR w lo hi A n xs) (hhi : hi ≤ w.heap.size) (hn : n ≤ 1048576) :
    Calls Tryz.prog 173 #[.slice A n c] w fun e w' => (∃ v, e = .returned v ∧ OwnInts w' w.heap.size 2 v ((xs.filter okS).map valS)) ∧ Below w.heap.size w w' := by
  have hl := ha.1
  subst hl
  have hbo := (Below.refl w.heap.size w).alloc (Nat.le_refl _) (.cells #[] 2)
  have HD := Lib.hid hbo
  have h0 := OwnR.none_ (enc := Value.int .i64) w w.heap.size 2 (Nat.le_refl _)
  have HH0 := Lib.hid h0
  have HA := Lib.hid (ha.below hbo hhi)
  have hsz : (w.alloc (.cells #[] 2)).heap.size = w.heap.size + 1 := by simp
  have HTK := Lib.hid (fun k (h : k < xs.length) => nums_more xs k h)
  have HN := Lib.hid (fun x W => l34Number_any x W)
  clear ha hbo h0
  go_enter Tryz.func173, Tryz.ntmps173
  go_wp2_with fail
  generalize w.alloc (.cells #[] 2) = w0 at *
  go_loopw [3, 4] (fun v i wr => ∃ k : Nat, k ≤ xs.length ∧ i = .int .i64 k ∧ Grows (Value.int .i64) wr w0.heap.size 2 (.slice (some ⟨w.heap.size, 0, none⟩) 0 0) v (((xs.take k).filter okS).map valS) ∧ Below w0.heap.size w0 wr) (fun _ i _ => xs.length - (intOf i).toNat)
  case atStart => exact ⟨0, Nat.zero_le _, rfl, Grows.start _ _ _ _, Below.refl _ _⟩
  case round =>
    obtain ⟨k, hk, rfl, hown, hbel⟩ := hrel
    have hszr := hbel.size
    by_cases hlt : k < xs.length
    · obtain ⟨b, off, rfl, _, hblt, hc⟩ := (HA.out.below hbel (by omega)).at_ hlt
      have HT := Lib.hid (HTK.out k hlt)
      have hfl : (((xs.take k).filter okS).map valS).length ≤ 1048576 := by
        have h1 := List.length_filter_le okS (xs.take k)
        rw [List.length_take] at h1
        rw [List.length_map]; omega
      generalize xs.getD k ByteArray.empty = X at *
      generalize ((xs.take k).filter okS).map valS = F at *
      have HNX := Lib.hid (fun W => HN.out X W)
      have HOV := Lib.hid (show okS X = (numS X).2 from rfl)
      have HVV := Lib.hid (show valS X = (numS X).1 from rfl)
      generalize numS X = NX at *
      have HB := Lib.hid hbel
      cases hok : NX.2
      · rw [hok] at HNX HOV
        rw [HOV.out, if_neg Bool.false_ne_true, List.append_nil] at HT
        clear hok hbel
        go_wp2_with fail
        refine (HNX.out _).mono ?_; rintro e1 w1 ⟨rfl, hb1⟩
        have hown1 := hown.over hb1
        have HB1 := Lib.hid (HB.out.trans (hb1.mono hszr))
        clear hb1
        go_wp2_with fail
        go_roundw
        case rel => exact ⟨k + 1, by omega, by go_num, by rw [HT.out]; exact hown1, HB1.out⟩
        case measure => simp [intOf]; omega
      · rw [hok] at HNX HOV
        rw [HOV.out, if_pos rfl, HVV.out] at HT
        generalize NX.1 = Z at *
        clear hok hbel
        go_wp2_with fail
        refine (HNX.out _).mono ?_; rintro e1 w1 ⟨rfl, hb1⟩
        have hs1 := Nat.le_trans hszr hb1.size
        have hown1 := hown.over hb1
        have HB1 := Lib.hid (HB.out.trans (hb1.mono hszr))
        clear hb1
        go_wp2_with (first
          | fail
          | (at_builtin; refine wpList_app1G (enc := Value.int .i64) rfl (.tmp 23) (.tmp 25) 23 2 rfl Tryz.underlying23 rfl (by omega) (fun _ => rfl) infoInt64 w1 w0.heap.size _ _ F Z rfl hown1 rfl (by omega) hs1 ?_; intro v3 w3 hown3 hb3))
        go_roundw
        case rel => exact ⟨k + 1, by omega, by go_num, by rw [HT.out]; exact hown3, HB1.out.trans hb3⟩
        case measure => simp [intOf]; omega
    · obtain rfl : k = xs.length := by omega
      have HB := Lib.hid hbel
      clear hbel
      rw [List.take_length] at hown
      go_wp2_with fail
      go_ret
      exact ⟨⟨_, rfl, hown.done HH0.out (HB.out.mono (Nat.le_refl _)) (by omega)⟩, HD.out.trans (HB.out.mono (by omega))⟩
end Go.Proofs.YtcjaaknnfohllaaGreatDoor
