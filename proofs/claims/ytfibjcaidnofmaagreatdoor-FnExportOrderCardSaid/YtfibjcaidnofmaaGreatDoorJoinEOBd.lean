/- A row of nodes that is being sorted in place: swaps, comparisons. -/
import Derived.Test.YtfibjcaidnofmaaGreatDoorJoinEOBb
import Derived.Test.YtfibjcaidnofmaaGreatDoorJoinEOAk
import Derived.Test.YtfibjcaidnofmaaGreatDoorJoinEOAs
import Derived.Test.YtfibjcaidnofmaaGreatDoorJoinEOAx
import Derived.Test.YtfibjcaidnofmaaGreatDoorJoinEOBa
import Derived.Test.YtfibjcaidnofmaaGreatDoorJoinEOAt
import Derived.Test.YtfibjcaidnofmaaGreatDoorJoinEOAl
import Derived.Test.YtfibjcaidnofmaaGreatDoorJoinEOAw
import Derived.Lib.AtoiAllCases
import Derived.Test.YtfibjcaidnofmaaGreatDoorJoinEOAq
import Derived.Test.YtfibjcaidnofmaaGreatDoorJoinEOBc
namespace Go.Proofs.YtfibjcaidnofmaaGreatDoor
open Go.RowKit
open Go.Sort hiding Below

abbrev ElN := List Value × List Nat × TyNode
def keyT (x : TyNode) : ByteArray × List ByteArray := (x.1, x.2.1)
def ltQ (p q : ElN) : Bool := befP (keyT p.2.2) (keyT q.2.2)
theorem swo_ltQ : SWO ltQ where
  irrefl _ := sto_befP.swo.irrefl _
  trans _ _ _ := sto_befP.swo.trans _ _ _
  ntrans _ _ _ := sto_befP.swo.ntrans _ _ _
def SmN (x : TyNode) : Prop := x.2.1.length ≤ 1048576 ∧ ∀ y ∈ x.2.1, y.size ≤ 65536
theorem sizeINode : (Tryz.prog.info? 32).map (·.size) = some 3 := by kernel_rfl

theorem Lot.swap {α : Type} [Inhabited α] {s : Sh α} {t : TypeId} {w0 w : World} {g c i j : Nat} {d : Array (List Value × List Nat × α)} (h : Lot s t w0 w g c d) (hi : i < d.size) (hj : j < d.size) :
    Lot s t w0 ((w.setCells g (i * s.k) (d[j]!).1).setCells g (j * s.k) (d[i]!).1) g c (swp d i j) :=
  (h.put hi _ (h.at_ hj)).put (j := j) (by simpa using hj) _ (h.at_ hi)

/-- The comparing function of ImportTree, whose world is T. -/
def CmpN (T : World → Prop) : Prop := ∀ (x y : TyNode) (us vs : List Value) (w : World), T w → SmN x → SmN y → shNode.R w 0 w.heap.size us x → shNode.R w 0 w.heap.size vs y →
  Calls Tryz.prog 46 #[.agg us.toArray, .agg vs.toArray] w fun e w' => (∃ v : Int, e = .returned (.int .i64 v) ∧ (befP (keyT x) (keyT y) = decide (v < 0))) ∧ Below w.heap.size w w'
structure LotN (T : World → Prop) (w0 w : World) (g c : Nat) (d : Array ElN) : Prop where
  lot : Lot shNode 32 w0 w g c d
  small : ∀ k, k < d.size → SmN (d[k]!).2.2
  few : d.size ≤ 120
  tabs : ∀ w', Out [g] w0 w' → T w'
section
variable {T : World → Prop} {w0 w w' : World} {g c i j : Nat} {d : Array ElN}
theorem LotN.below (h : LotN T w0 w g c d) (hb : Below w.heap.size w w') : LotN T w0 w' g c d := ⟨h.lot.below hb, h.small, h.few, h.tabs⟩
theorem LotN.swap (h : LotN T w0 w g c d) (hi : i < d.size) (hj : j < d.size) : LotN T w0 ((w.setCells g (i * 3) (d[j]!).1).setCells g (j * 3) (d[i]!).1) g c (swp d i j) :=
  ⟨h.lot.swap hi hj, fun k hk => by
    rw [size_swp] at hk
    rw [swp_get d hi hj k]
    split
    · exact h.small _ (by assumption)
    · split
      · exact h.small _ (by assumption)
      · exact h.small _ hk, by rw [size_swp]; exact h.few, h.tabs⟩
theorem LotN.range (h : LotN T w0 w g c d) (hi : i < d.size) : w.rangeAt g (i * 3) (d[i]!).1 := h.lot.range hi
theorem LotN.there (h : LotN T w0 w g c d) (hi : i < d.size) {n : Nat} (hn : n = 3) : w.there g (i * 3) n := h.lot.there hi hn
theorem LotN.len (h : LotN T w0 w g c d) (hi : i < d.size) : (d[i]!).1.length = 3 := h.lot.len hi
theorem LotN.there2 (h : LotN T w0 w g c d) (hj : j < d.size) {n : Nat} (hn : n = 3) (vs : List Value) : (w.setCells g (i * 3) vs).there g (j * 3) n := World.there_setCells (h.there hj hn) _ _ _
theorem LotN.one (h : LotN T w0 w g c d) (hi : i < d.size) : ((d[i]!).1.toArray).all (·.oneCell') = true := by
  have h1 := h.lot.reads hi
  obtain ⟨x0, x1, x2⟩ := (d[i]!).2.2
  obtain ⟨A1, c1, e, _⟩ := shNode_R.1 h1
  rw [e]; simp [Value.oneCell']
theorem LotN.sz (h : LotN T w0 w g c d) (hi : i < d.size) : (d[i]!).1.toArray.size = 3 := by rw [List.size_toArray]; exact h.len hi
theorem LotN.szL (h : LotN T w0 w g c d) (hi : i < d.size) : (Tryz.prog.info? 32).map (·.size) = some (d[i]!).1.length := by rw [sizeINode, h.len hi]
theorem LotN.szA (h : LotN T w0 w g c d) (hi : i < d.size) : (Tryz.prog.info? 32).map (·.size) = some (d[i]!).1.toArray.size := by rw [sizeINode, h.sz hi]
theorem LotN.cmp (h : LotN T w0 w g c d) (HC : CmpN T) (hi : i < d.size) (hj : j < d.size) :
    Calls Tryz.prog 46 #[.agg (d[i]!).1.toArray, .agg (d[j]!).1.toArray] w fun e w' => (∃ v : Int, e = .returned (.int .i64 v) ∧ (ltQ d[i]! d[j]! = decide (v < 0))) ∧ Below w.heap.size w w' :=
  HC _ _ _ _ _ (h.tabs _ h.lot.out) (h.small _ hi) (h.small _ hj) (h.lot.reads hi) (h.lot.reads hj)
/-- Two elements at hand, their cells opaque. -/
structure Pair (T : World → Prop) (w0 w : World) (g c : Nat) (d : Array ElN) (i j : Nat) (xi xj : List Value) : Prop where
  ri : w.rangeAt g (i * 3) xi
  rj : w.rangeAt g (j * 3) xj
  si : (Tryz.prog.info? 32).map (·.size) = some xi.length
  sj : (Tryz.prog.info? 32).map (·.size) = some xj.length
  ti : w.there g (i * 3) xj.toArray.size
  tj : (w.setCells g (i * 3) xj).there g (j * 3) xi.toArray.size
  ai : (Tryz.prog.info? 32).map (·.size) = some xi.toArray.size
  aj : (Tryz.prog.info? 32).map (·.size) = some xj.toArray.size
  oi : xi.toArray.all (·.oneCell') = true
  oj : xj.toArray.all (·.oneCell') = true
  lot : LotN T w0 w g c d
  sw : LotN T w0 ((w.setCells g (i * 3) xj).setCells g (j * 3) xi) g c (swp d i j)
  cmp : CmpN T → Calls Tryz.prog 46 #[.agg xi.toArray, .agg xj.toArray] w fun e w' => (∃ v : Int, e = .returned (.int .i64 v) ∧ (ltQ d[i]! d[j]! = decide (v < 0))) ∧ Below w.heap.size w w'
theorem LotN.pair (h : LotN T w0 w g c d) (hi : i < d.size) (hj : j < d.size) : ∃ xi xj, Pair T w0 w g c d i j xi xj :=
  ⟨(d[i]!).1, (d[j]!).1, h.range hi, h.range hj, h.szL hi, h.szL hj, h.there hi (h.sz hj), h.there2 hj (h.sz hi) _, h.szA hi, h.szA hj, h.one hi, h.one hj, h, h.swap hi hj, fun HC => h.cmp HC hi hj⟩
end

end Go.Proofs.YtfibjcaidnofmaaGreatDoor

/- Reading a tree's text: its lines, the number that its first line announces, what comes of it. No program in sight. -/
namespace Go.Proofs.YtfibjcaidnofmaaGreatDoor

/-! ### The lines -/
def stepL (s : List (List UInt8) × List UInt8) (c : UInt8) : List (List UInt8) × List UInt8 := if c = 10 then (s.1 ++ [s.2], []) else (s.1, s.2 ++ [c])
def linesP (l : List UInt8) : List (List UInt8) × List UInt8 := l.foldl stepL ([], [])
theorem stepL_end (s : List (List UInt8) × List UInt8) : stepL s 10 = (s.1 ++ [s.2], []) := if_pos rfl
theorem stepL_in (s : List (List UInt8) × List UInt8) {c : UInt8} (h : c ≠ 10) : stepL s c = (s.1, s.2 ++ [c]) := if_neg h
theorem fold_out : ∀ (l : List UInt8) (o : List (List UInt8)) (p : List UInt8), l.foldl stepL (o, p) = (o ++ (l.foldl stepL ([], p)).1, (l.foldl stepL ([], p)).2)
  | [], o, p => by simp
  | c :: l, o, p => by
    rw [List.foldl_cons, List.foldl_cons]
    by_cases h : c = 10
    · subst h
      rw [stepL_end, stepL_end, fold_out l (o ++ [p]) [], fold_out l ([] ++ [p]) []]
      simp
    · rw [stepL_in _ h, stepL_in _ h, fold_out l o (p ++ [c])]
theorem fold_plain : ∀ (a : List UInt8) (o : List (List UInt8)) (p : List UInt8), (∀ c ∈ a, c ≠ 10) → a.foldl stepL (o, p) = (o, p ++ a)
  | [], o, p, _ => by simp
  | c :: a, o, p, h => by
    rw [List.foldl_cons, stepL_in _ (h c (List.mem_cons_self ..)), fold_plain a _ _ (fun d hd => h d (List.mem_cons_of_mem _ hd)), List.append_assoc]; rfl
theorem linesP_none (a : List UInt8) (h : ∀ c ∈ a, c ≠ 10) : linesP a = ([], a) := by unfold linesP; rw [fold_plain a _ _ h]; rfl
theorem linesP_line (a r : List UInt8) (h : ∀ c ∈ a, c ≠ 10) : linesP (a ++ 10 :: r) = (a :: (linesP r).1, (linesP r).2) := by
  unfold linesP
  rw [List.foldl_append, fold_plain a _ _ h, List.foldl_cons, stepL_end, fold_out]
  simp
theorem linesP_snoc (l : List UInt8) (c : UInt8) : linesP (l ++ [c]) = stepL (linesP l) c := by unfold linesP; rw [List.foldl_append]; rfl
theorem linesP_count (l : List UInt8) : (linesP l).1.length = l.count 10 := by
  have h : ∀ (l : List UInt8) (o : List (List UInt8)) (p : List UInt8), (l.foldl stepL (o, p)).1.length = o.length + l.count 10 := by
    intro l
    induction l with
    | nil => intro o p; simp
    | cons c l ih =>
      intro o p
      rw [List.foldl_cons]
      by_cases e : c = 10
      · subst e
        rw [stepL_end, ih]; simp; omega
      · rw [stepL_in _ e, ih, List.count_cons_of_ne e]
  have := h l [] []
  unfold linesP
  simpa using this
theorem snoc_cases {α : Type} (l : List α) (h : l ≠ []) : ∃ r c, l = r ++ [c] := ⟨l.dropLast, l.getLast h, (List.dropLast_concat_getLast h).symm⟩
theorem linesP_whole (l : List UInt8) (h : l ≠ []) : [10].isSuffixOf l = decide ((linesP l).2 = []) := by
  obtain ⟨r, c, rfl⟩ := snoc_cases l h
  rw [linesP_snoc]
  by_cases e : c = 10
  · subst e
    rw [stepL_end, decide_eq_true rfl]
    exact List.isSuffixOf_iff_suffix.2 ⟨r, rfl⟩
  · rw [stepL_in _ e, decide_eq_false (by simp)]
    cases hx : [10].isSuffixOf (r ++ [c]) with
    | false => rfl
    | true =>
      obtain ⟨t, ht⟩ := List.isSuffixOf_iff_suffix.1 hx
      have := (List.append_inj' ht rfl).2
      injection this with this
      exact absurd this.symm e
theorem linesP_len (l : List UInt8) : (∀ a ∈ (linesP l).1, a.length ≤ l.length) ∧ (linesP l).2.length ≤ l.length := by
  have h : ∀ (l : List UInt8) (o : List (List UInt8)) (p : List UInt8) (k : Nat), (∀ a ∈ o, a.length ≤ k) → p.length ≤ k → (∀ a ∈ (l.foldl stepL (o, p)).1, a.length ≤ k + l.length) ∧ (l.foldl stepL (o, p)).2.length ≤ k + l.length := by
    intro l
    induction l with
    | nil => intro o p k h1 h2; exact ⟨fun a ha => by have := h1 a ha; simpa using this, by simpa using h2⟩
    | cons c l ih =>
      intro o p k h1 h2
      rw [List.foldl_cons]
      by_cases e : c = 10
      · subst e
        rw [stepL_end]
        obtain ⟨i1, i2⟩ := ih (o ++ [p]) [] (k + 1) (fun a ha => by
          rcases List.mem_append.1 ha with ha | ha
          · have := h1 a ha; omega
          · rw [List.mem_singleton.1 ha]; omega) (by simp)
        exact ⟨fun a ha => by have := i1 a ha; rw [List.length_cons]; omega, by rw [List.length_cons]; have i3 := i2; dsimp only at i3 ⊢; omega⟩
      · rw [stepL_in _ e]
        obtain ⟨i1, i2⟩ := ih o (p ++ [c]) (k + 1) (fun a ha => by have := h1 a ha; omega) (by rw [List.length_append]; simp; omega)
        exact ⟨fun a ha => by have := i1 a ha; rw [List.length_cons]; omega, by rw [List.length_cons]; have i3 := i2; dsimp only at i3 ⊢; omega⟩
  have := h l [] [] 0 (fun a ha => by cases ha) (Nat.le_refl _)
  simpa [linesP] using this

/-! ### The number that is announced -/
def nodesW : List UInt8 := [110, 111, 100, 101, 115, 32]
def manyD (d : List UInt8) : Int := if 1 ≤ d.length ∧ d.length ≤ 9 ∧ Lib.decDigits (valFrom 0 d) = d then (valFrom 0 d : Int) else -1
def manyP (l : List UInt8) : Int := if nodesW.isPrefixOf l then manyD (l.drop 6) else -1
theorem dec_ne' (u : Nat) : Lib.decDigits u ≠ [] := by
  intro h
  have := decDigits_val u
  rw [h] at this
  have h1 : u = 0 := this.symm
  subst h1
  rw [decDigits_small (by omega)] at h
  cases h
theorem dec_head' (u : Nat) : ∃ c r, Lib.decDigits u = c :: r ∧ isDig c = true := by
  cases h : Lib.decDigits u with
  | nil => exact absurd h (dec_ne' u)
  | cons c r => exact ⟨c, r, rfl, decDigits_dig u c (by rw [h]; exact List.mem_cons_self ..)⟩
theorem parse_digits' : ∀ (l : List UInt8) (acc : Nat), (∀ c ∈ l, isDig c = true) → valFrom acc l < 1844674407370955162 → Lib.parseUint10 acc l = .ok (valFrom acc l)
  | [], _, _, _ => rfl
  | c :: l, acc, hd, hv => by
    have hc := hd c (List.mem_cons_self ..)
    have hc2 := hc
    unfold isDig at hc2
    rw [decide_eq_true_eq] at hc2
    rw [valFrom_cons] at hv ⊢
    have hge := valFrom_ge l (10 * acc + dg c)
    have hdg : dg c = c.toNat - 48 := by unfold dg; omega
    rw [Lib.parseUint10, if_pos hc2, if_neg (by omega), if_neg (by omega), show acc * 10 + (c.toNat - 48) = 10 * acc + dg c by omega]
    exact parse_digits' l _ (fun c' h => hd c' (List.mem_cons_of_mem _ h)) hv
theorem small_dec' {u k : Nat} (h : (Lib.decDigits u).length ≤ k) : u < 10 ^ k := by
  rcases Nat.lt_or_ge u (10 ^ k) with h' | h'
  · exact h'
  · have := decDigits_ge k u h'; omega
theorem atoi_dec9 (u : Nat) (h : (Lib.decDigits u).length ≤ 9) : Lib.atoiAll (Lib.decDigits u) = .ok (u : Int) := by
  have hs := small_dec' h
  obtain ⟨c, r, e, hd⟩ := dec_head' u
  have hd2 := hd
  unfold isDig at hd2
  rw [decide_eq_true_eq] at hd2
  have hp : Lib.parseMag (Lib.decDigits u) = .ok u := by
    unfold Lib.parseMag
    rw [if_neg (dec_ne' _), parse_digits' _ _ (decDigits_dig _) (by rw [decDigits_val]; omega), decDigits_val]
  rw [e] at hp ⊢
  rw [Lib.atoiAll_plain c r (by omega) (by omega), hp]
  unfold Lib.signless
  simp only
  rw [if_neg (by omega)]
theorem itoa_nat (u : Nat) : Lib.itoa (u : Int) = Lib.decDigits u := by
  unfold Lib.itoa
  rw [if_neg (by omega)]
  congr 1
/-- What the program's 'announced' computes behind the word. -/
theorem manyD_ok {d : List UInt8} {n : Int} (ha : Lib.atoiAll d = .ok n) : manyD d = if d.length ≤ 9 ∧ Lib.itoa n = d ∧ 0 ≤ n then n else -1 := by
  unfold manyD
  by_cases h : 1 ≤ d.length ∧ d.length ≤ 9 ∧ Lib.decDigits (valFrom 0 d) = d
  · rw [if_pos h]
    obtain ⟨h1, h2, h3⟩ := h
    have h4 := atoi_dec9 (valFrom 0 d) (by rw [h3]; exact h2)
    rw [h3, ha] at h4
    injection h4 with h4
    subst h4
    rw [if_pos ⟨h2, by rw [itoa_nat]; exact h3, by omega⟩]
  · rw [if_neg h]
    split
    · rename_i h2
      obtain ⟨h3, h4, h5⟩ := h2
      obtain ⟨u, rfl⟩ := Int.eq_ofNat_of_zero_le h5
      rw [itoa_nat] at h4
      refine absurd ⟨?_, h3, ?_⟩ h
      · rw [← h4]; exact List.length_pos_iff.2 (dec_ne' _)
      · rw [← h4, decDigits_val]
    · rfl
theorem manyD_bad {d : List UInt8} (ha : ∀ n, Lib.atoiAll d ≠ .ok n) : manyD d = -1 := by
  unfold manyD
  split
  · rename_i h
    obtain ⟨h1, h2, h3⟩ := h
    have h4 := atoi_dec9 (valFrom 0 d) (by rw [h3]; exact h2)
    rw [h3] at h4
    exact absurd h4 (ha _)
  · rfl
/-! ### The whole text -/
def keyN (x : Nod) : ByteArray × List ByteArray := (x.name, x.subs)
def readAll : List (List UInt8) → Option (List Nod)
  | [] => some []
  | a :: L => (rdlI a).bind fun n => (readAll L).map (n :: ·)
abbrev insN (L : List Nod) : List Nod × Bool := insAll befP keyN L
def importP (l : List UInt8) : Int × List Nod :=
  if 60000 < l.length then (4, []) else
  match (linesP l).1 with
  | [] => (14, [])
  | a :: L =>
    if 120 < manyP a then (4, []) else
    if (linesP l).2 ≠ [] ∨ manyP a < 0 ∨ manyP a ≠ L.length then (14, []) else
    match readAll L with
    | none => (14, [])
    | some ns => if (insN ns).2 then (5, []) else (0, (insN ns).1)
theorem readAll_len : ∀ {L : List (List UInt8)} {ns : List Nod}, readAll L = some ns → ns.length = L.length
  | [], ns, h => by injection h with h; subst h; rfl
  | a :: L, ns, h => by
    unfold readAll at h
    cases ha : rdlI a with
    | none => rw [ha] at h; cases h
    | some n =>
      rw [ha] at h
      cases hL : readAll L with
      | none => rw [Option.bind_some, hL] at h; cases h
      | some ms =>
        rw [Option.bind_some, hL] at h
        injection h with h
        subst h
        rw [List.length_cons, List.length_cons, readAll_len hL]
theorem readAll_ok : ∀ {L : List (List UInt8)} {ns : List Nod}, readAll L = some ns → ∀ x ∈ ns, nodB x = true
  | [], ns, h => by injection h with h; subst h; intro x hx; cases hx
  | a :: L, ns, h => by
    unfold readAll at h
    cases ha : rdlI a with
    | none => rw [ha] at h; cases h
    | some n =>
      rw [ha] at h
      cases hL : readAll L with
      | none => rw [Option.bind_some, hL] at h; cases h
      | some ms =>
        rw [Option.bind_some, hL] at h
        injection h with h
        subst h
        intro x hx
        rcases List.mem_cons.1 hx with rfl | hx
        · exact rdl_ok _ _ ha
        · exact readAll_ok hL x hx
theorem readAll_snoc (L : List (List UInt8)) (a : List UInt8) : readAll (L ++ [a]) = (readAll L).bind fun ns => (rdlI a).map fun n => ns ++ [n] := by
  induction L with
  | nil =>
    show (rdlI a).bind _ = _
    cases rdlI a <;> rfl
  | cons b L ih =>
    show (rdlI b).bind (fun n => (readAll (L ++ [a])).map (n :: ·)) = ((rdlI b).bind fun n => (readAll L).map (n :: ·)).bind _
    rw [ih]
    cases rdlI b with
    | none => rfl
    | some n =>
      cases readAll L with
      | none => rfl
      | some ns => cases rdlI a <;> rfl
theorem readAll_none {L : List (List UInt8)} {k : Nat} (h : readAll (L.take k) = none) : readAll L = none := by
  have : ∀ (A B : List (List UInt8)), readAll A = none → readAll (A ++ B) = none := by
    intro A
    induction A with
    | nil => intro B h; cases h
    | cons a A ih =>
      intro B h
      show (rdlI a).bind _ = none
      have h' : (rdlI a).bind (fun n => (readAll A).map (n :: ·)) = none := h
      cases ha : rdlI a with
      | none => rfl
      | some n =>
        rw [ha, Option.bind_some] at h'
        have h2 : readAll A = none := by
          cases hA : readAll A with
          | none => rfl
          | some ms => rw [hA] at h'; cases h'
        show (readAll (A ++ B)).map _ = none
        rw [ih B h2]; rfl
  have h2 := this _ (L.drop k) h
  rwa [List.take_append_drop] at h2

/-- A tree that rises is valid, and the other way round. -/
theorem treTo_iff (ns : List Nod) (k : Nat) : treTo ns k = true ↔ ∀ j, j < k → treAt ns j = true := by
  unfold treTo
  rw [List.all_eq_true]
  exact ⟨fun h j hj => h j (List.mem_range.2 hj), fun h j hj => h j (List.mem_range.1 hj)⟩
theorem rises_getD {ns : List Nod} (h : Rises befP keyN ns) {i j : Nat} (hij : i < j) (hj : j < ns.length) : befP (keyN (ns.getD i nodD)) (keyN (ns.getD j nodD)) = true := by
  have := (List.pairwise_iff_getElem.1 h) i j (by omega) hj hij
  rw [List.getD_eq_getElem?_getD, List.getD_eq_getElem?_getD, List.getElem?_eq_getElem hj, List.getElem?_eq_getElem (show i < ns.length by omega)]
  exact this
theorem rises_step {ns : List Nod} (h : ∀ j, 0 < j → j < ns.length → befP (keyN (ns.getD (j - 1) nodD)) (keyN (ns.getD j nodD)) = true) : Rises befP keyN ns := by
  refine List.pairwise_iff_getElem.2 fun i j hi hj hij => ?_
  have key : ∀ d i, i + d + 1 < ns.length → befP (keyN (ns.getD i nodD)) (keyN (ns.getD (i + d + 1) nodD)) = true := by
    intro d
    induction d with
    | zero => intro i hi; exact h (i + 1) (by omega) hi
    | succ d ih => intro i hi; exact sto_befP.trans _ _ _ (ih i (by omega)) (h (i + (d + 1) + 1) (by omega) hi)
  have := key (j - i - 1) i (by omega)
  rw [show i + (j - i - 1) + 1 = j by omega, List.getD_eq_getElem?_getD, List.getD_eq_getElem?_getD, List.getElem?_eq_getElem hj, List.getElem?_eq_getElem hi] at this
  exact this
theorem treB_rises {ns : List Nod} (hn : ∀ x ∈ ns, nodB x = true) (hl : ns.length ≤ 120) : treB ns = true ↔ Rises befP keyN ns := by
  have hmem : ∀ j, j < ns.length → ns.getD j nodD ∈ ns := fun j hj => by rw [List.getD_eq_getElem?_getD, List.getElem?_eq_getElem hj]; exact List.getElem_mem hj
  unfold treB
  rw [decide_eq_true hl, Bool.true_and, treTo_iff]
  constructor
  · intro h
    refine rises_step fun j h0 hj => ?_
    have := h j hj
    rw [treAt_next _ _ (by omega), Bool.and_eq_true] at this
    exact this.2
  · intro h j hj
    by_cases h0 : j = 0
    · rw [treAt_first _ _ h0]; exact hn _ (hmem j hj)
    · rw [treAt_next _ _ h0, hn _ (hmem j hj), Bool.true_and]
      exact rises_getD h (by omega) hj
/-- THE LAW of the program's last step: what sorting gave is a tree if and only if no place came twice. -/
theorem import_sort {ns P : List Nod} (hp : P.Perm ns) (hs : P.Pairwise fun a b => befP (keyN b) (keyN a) = false) (hn : ∀ x ∈ ns, nodB x = true) (hl : ns.length ≤ 120) :
    treB P = !(insN ns).2 ∧ ((insN ns).2 = false → P = (insN ns).1) := by
  obtain ⟨h1, h2⟩ := sort_ins (f := keyN) sto_befP hp hs
  have hn' : ∀ x ∈ P, nodB x = true := fun x hx => hn x (hp.subset hx)
  have ht := treB_rises hn' (by rw [hp.length_eq]; exact hl)
  cases hb : (insN ns).2 with
  | false =>
    obtain ⟨h3, h4⟩ := h1 hb
    exact ⟨by rw [ht.2 h3]; rfl, fun _ => h4⟩
  | true =>
    refine ⟨?_, fun h => by cases h⟩
    cases hT : treB P with
    | false => rfl
    | true => exact absurd (ht.1 hT) (h2 hb)
end Go.Proofs.YtfibjcaidnofmaaGreatDoor

/- Nodes in two ways of saying; the comparison that ImportTree sorts by. -/
namespace Go.Proofs.YtfibjcaidnofmaaGreatDoor
open Go.RowKit

def nodOf (x : TyNode) : Nod := ⟨x.1, x.2.1, x.2.2⟩
def tyOf (x : Nod) : TyNode := (x.name, x.subs, x.value)
theorem map_nodOf (ns : List Nod) : (ns.map tyOf).map nodOf = ns := by rw [List.map_map]; exact List.map_id _

section
variable {w : World} {lo hi : Nat} {t : TypeId}
theorem shNode_strR {vs : List Value} {x : TyNode} (h : shNode.R w lo hi vs x) : ∃ A c, vs = [.string x.1, .slice A x.2.1.length c, .string x.2.2] ∧ StrR w lo hi A x.2.1.length x.2.1 := by
  obtain ⟨x0, x1, x2⟩ := x
  obtain ⟨A1, c1, e, g⟩ := shNode_R.1 h
  exact ⟨A1, c1, e, rowR_of_G g⟩
theorem strR_shNode {A : Option Addr} {c : Nat} {x : TyNode} (h : StrR w lo hi A x.2.1.length x.2.1) : shNode.R w lo hi [.string x.1, .slice A x.2.1.length c, .string x.2.2] x := by
  obtain ⟨x0, x1, x2⟩ := x
  exact shNode_R.2 ⟨A, c, rfl, rowG_of_R h⟩
theorem getD_map_nod (xs : List TyNode) (j : Nat) (hj : j < xs.length) : (xs.map nodOf).getD j nodD = nodOf (xs.getD j shNode.d) := by
  rw [List.getD_eq_getElem?_getD, List.getD_eq_getElem?_getD, List.getElem?_map, List.getElem?_eq_getElem hj]; rfl
theorem nodesR_of {A : Option Addr} {n c : Nat} {xs : List TyNode} (h : (Sh.row t shNode).R w lo hi [.slice A n c] xs) : NodesR w lo hi A n (xs.map nodOf) := by
  obtain ⟨A', c', e, h⟩ := h
  injection e with e _
  injection e with e1 e2 e3
  subst e1 e2
  refine ⟨by simp, fun hn => ?_⟩
  obtain ⟨b, off, rfl, h1, h2, hc⟩ := h hn
  refine ⟨b, off, rfl, h1, h2, fun j hj => ?_⟩
  obtain ⟨us, h3, h4⟩ := hc j hj
  rw [getD_map_nod xs j hj]
  generalize xs.getD j shNode.d = x at *
  obtain ⟨A1, c1, rfl, h5⟩ := shNode_strR h4
  exact ⟨A1, c1, by simpa [shNode_k, nodOf] using h3 0 (by simp), by simpa [shNode_k, nodOf] using h3 1 (by simp), by simpa [shNode_k, nodOf] using h3 2 (by simp), h5⟩
end

set_option maxHeartbeats 1000000 in
theorem cmpN_holds : CmpN TabsIn := by
  intro x y us vs w hT hx hy hu hv
  obtain ⟨A, c, rfl, ha⟩ := shNode_strR hu
  obtain ⟨B, d, rfl, hb⟩ := shNode_strR hv
  obtain ⟨x0, x1, x2⟩ := x
  obtain ⟨y0, y1, y2⟩ := y
  have hb2 := ((Below.refl w.heap.size w).alloc (Nat.le_refl _) (.cells #[.string x0, .slice A x1.length c, .string x2] 32)).alloc (by simp) (.cells #[.string y0, .slice B y1.length d, .string y2] 32)
  have HC := Lib.hid (compareLocations_any x0 y0 A B x1.length y1.length c d 0 w.heap.size 0 w.heap.size x1 y1 _ (hT.below hb2) (ha.below hb2 (Nat.le_refl _)) (hb.below hb2 (Nat.le_refl _)) hb2.size hb2.size hx.1 hy.1 hx.2 hy.2)
  have HB := Lib.hid hb2
  clear hT hu hv ha hb hb2
  go_enter Tryz.func46, Tryz.ntmps46
  go_wp2_with fail
  refine HC.out.mono ?_
  rintro e1 w1 ⟨rfl, hb1⟩
  have HB1 := Lib.hid (HB.out.trans (hb1.mono HB.out.size))
  clear hb1
  go_wp2_with fail
  go_ret
  exact ⟨⟨_, rfl, (cmpLoc_neg x0 x1 y0 y1).symm⟩, HB1.out⟩

end Go.Proofs.YtfibjcaidnofmaaGreatDoor

/- The program's reading of a tree's text, walked: the number announced. -/
namespace Go.Proofs.YtfibjcaidnofmaaGreatDoor
open Go.RowKit

/-- strconv.Atoi at every text, with what it says of errors. -/
theorem atoi2_any (s : ByteArray) (hs : s.size ≤ 1048576) (w : World) (hE : EnvR w) :
    Calls Tryz.prog 97 #[.string s] w fun e w' => (∃ v ev, e = .returned (.tuple #[.int .i64 v, ev]) ∧ ((Lib.atoiAll s.data.toList = .ok v ∧ ev = .nilIface) ∨ ((∀ n, Lib.atoiAll s.data.toList ≠ .ok n) ∧ ∃ t p, ev = .iface t p))) ∧ Below w.heap.size w w' := by
  cases h : Lib.atoiAll s.data.toList with
  | ok v =>
    refine (Tryz.strconv_Atoi_ok s (by omega) v h w).mono ?_
    rintro e w' ⟨rfl, hw⟩
    refine ⟨⟨v, .nilIface, rfl, .inl ⟨rfl, rfl⟩⟩, ?_⟩
    rcases hw with rfl | ⟨t, rfl⟩
    · exact Below.refl _ _
    · exact ⟨rfl, rfl, rfl, by rw [Lib.bytesWorld_size]; omega, fun k hk => Lib.bytesWorld_at_old w _ t k hk⟩
  | range =>
    obtain ⟨ev, h1, h2⟩ := hE.2.2
    refine (Tryz.strconv_Atoi_range s (by omega) h ev w h1 h2).mono ?_
    rintro e w' ⟨N, rfl, _, _, hb⟩
    exact ⟨⟨_, _, rfl, .inr ⟨fun n hn => (by cases hn), _, _, rfl⟩⟩, hb⟩
  | _ =>
    obtain ⟨ev, h1, h2⟩ := hE.2.1
    refine (Tryz.strconv_Atoi_syntax s (by omega) h ev w h1 h2).mono ?_
    rintro e w' ⟨N, rfl, _, _, hb⟩
    exact ⟨⟨_, _, rfl, .inr ⟨fun n hn => (by cases hn), _, _, rfl⟩⟩, hb⟩
set_option maxHeartbeats 8000000 in
set_option maxRecDepth 100000 in
theorem announced_any (s : ByteArray) (hs : s.size ≤ 1048576) (w : World) (hE : EnvR w) :
    Calls Tryz.prog 40 #[.string s] w fun e w' => e = .returned (.int .i64 (manyP s.data.toList)) ∧ Below w.heap.size w w' := by
  obtain ⟨M, hM⟩ : ∃ M, M = manyP s.data.toList := ⟨_, rfl⟩
  rw [← hM]
  have HCP := Lib.hid (fun W => Tryz.strings_CutPrefix s ⟨#[110, 111, 100, 101, 115, 32]⟩ W)
  have HE := Lib.hid hE
  have hlen : s.data.toList.length = s.size := by simp
  have hpe : Lib.hasPrefix s.data.toList (⟨#[110, 111, 100, 101, 115, 32]⟩ : ByteArray).data.toList = nodesW.isPrefixOf s.data.toList := rfl
  obtain ⟨D, hD⟩ : ∃ D, D = Lib.trimPrefix s.data.toList (⟨#[110, 111, 100, 101, 115, 32]⟩ : ByteArray).data.toList := ⟨_, rfl⟩
  have hDl : D.length ≤ s.size := by
    rw [hD]; unfold Lib.trimPrefix
    split
    · rw [List.length_drop, hlen]; omega
    · rw [hlen]; exact Nat.le_refl _
  have hMD : nodesW.isPrefixOf s.data.toList = true → M = manyD D := fun h => by
    rw [hM]; unfold manyP; rw [if_pos h, hD]; unfold Lib.trimPrefix; rw [if_pos (show Lib.hasPrefix s.data.toList (⟨#[110, 111, 100, 101, 115, 32]⟩ : ByteArray).data.toList = true from h)]; rfl
  have hMN : nodesW.isPrefixOf s.data.toList = false → M = -1 := fun h => by rw [hM]; unfold manyP; rw [h]; rfl
  have hX : ((⟨D.toArray⟩ : ByteArray)).size = D.length := List.size_toArray
  have HAT := Lib.hid (fun W (hW : EnvR W) => atoi2_any ⟨D.toArray⟩ (by rw [hX]; omega) W hW)
  have HIT := Lib.hid (fun (n : Int) (h1 : -9223372036854775808 ≤ n) (h2 : n ≤ 9223372036854775807) W (hT : TabsIn W) => Tryz.strconv_Itoa n h1 h2 W hT)
  rw [← hD, hpe] at HCP
  have HMD := Lib.hid hMD
  have HMN := Lib.hid hMN
  generalize nodesW.isPrefixOf s.data.toList = P at *
  clear hM hD hMD hMN hpe hE hlen
  go_enter Tryz.func40, Tryz.ntmps40
  go_wp2_with fail
  refine (HCP.out _).mono ?_
  rintro e1 w1 ⟨rfl, rfl⟩
  go_wp2_with fail
  refine (HAT.out _ HE.out).mono ?_
  rintro e2 w2 ⟨⟨v, ev, rfl, hv⟩, hb2⟩
  have HB2 := Lib.hid hb2
  have HV := Lib.hid hv
  have HE2 := Lib.hid (HE.out.below hb2)
  clear hb2 hv
  cases P with
  | false =>
    have HM := Lib.hid (HMN.out rfl)
    go_wp2_with fail
    go_ret
    exact ⟨by rw [HM.out]; rfl, HB2.out⟩
  | true =>
    have HM := Lib.hid (HMD.out rfl)
    rcases HV.out with ⟨ha, rfl⟩ | ⟨ha, tt, pp, rfl⟩
    · have HMO := Lib.hid (manyD_ok ha)
      by_cases h9 : D.length ≤ 9
      · have i9 : ¬ (9 : Int) < (D.length : Int) := by omega
        obtain ⟨v1, v2⟩ := Lib.atoiAll_bounds ha
        clear ha HV
        go_wp2_with fail
        refine (HIT.out v v1 v2 _ HE2.out.1.1).mono ?_
        rintro e3 w3 ⟨rfl, kk, os, rfl⟩
        have HB3 := Lib.hid (HB2.out.trans ((Lib.below_grow w2.heap.size w2 (Nat.le_refl _) kk os).mono HB2.out.size))
        by_cases hvd : Lib.itoa v = D
        · have hq2 : (Lib.itoa v == D) = true := beq_iff_eq.2 hvd
          by_cases hv0 : v < 0
          · have HR := Lib.hid (show M = -1 by rw [HM.out, HMO.out, if_neg (fun h => by omega)])
            clear hq2
            go_wp2_with fail
            go_ret
            exact ⟨by rw [HR.out]; rfl, HB3.out⟩
          · have HR := Lib.hid (show M = v by rw [HM.out, HMO.out, if_pos ⟨h9, hvd, by omega⟩])
            clear hq2
            go_wp2_with fail
            go_ret
            exact ⟨by rw [HR.out]; rfl, HB3.out⟩
        · have hq2 : (Lib.itoa v == D) = false := beq_eq_false_iff_ne.2 hvd
          have HR := Lib.hid (show M = -1 by rw [HM.out, HMO.out, if_neg (fun h => hvd h.2.1)])
          clear hq2
          go_wp2_with fail
          go_ret
          exact ⟨by rw [HR.out]; rfl, HB3.out⟩
      · have i9 : (9 : Int) < (D.length : Int) := by omega
        have HR := Lib.hid (show M = -1 by rw [HM.out, HMO.out, if_neg (fun h => h9 h.1)])
        clear ha HV
        go_wp2_with fail
        go_ret
        exact ⟨by rw [HR.out]; rfl, HB2.out⟩
    · have HR := Lib.hid (show M = -1 by rw [HM.out, manyD_bad ha])
      clear ha HV
      go_wp2_with fail
      go_ret
      exact ⟨by rw [HR.out]; rfl, HB2.out⟩

end Go.Proofs.YtfibjcaidnofmaaGreatDoor
