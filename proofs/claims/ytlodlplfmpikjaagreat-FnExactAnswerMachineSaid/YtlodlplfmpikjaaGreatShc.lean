/- Shapes of texts, numbers, truth values; the walks of the slices of texts and numbers in these words. -/
import Derived.Test.YtlodlplfmpikjaaGreatShb
import Derived.Test.YtlodlplfmpikjaaGreatActTo
import Derived.Test.YtlodlplfmpikjaaGreatMrkL
namespace Go.Proofs.YtlodlplfmpikjaaGreat
open Go.RowKit

abbrev shS : Sh ByteArray := Sh.one Value.string ByteArray.empty markT ByteArray.size (fun _ => rfl)
abbrev shI : Sh Int := Sh.one (Value.int .i64) 0 (fun k => (k : Int)) (fun _ => 0) (fun _ => rfl)
abbrev shB : Sh Bool := Sh.one Value.bool false (fun k => ((k : Nat) : Int) % 3 == 0) (fun _ => 0) (fun _ => rfl)

section
variable {α : Type} {enc : α → Value} {d : α} {m : Nat → α} {co : α → Nat} {h1 : ∀ x, (enc x).oneCell' = true} {w : World} {lo hi : Nat} {A : Option Addr} {xs : List α} {t : TypeId} {n c : Nat} {F : List Nat}

theorem rowR_of_G (h : RowG (Sh.one enc d m co h1) w lo hi A xs) : RowR enc d w lo hi A xs.length xs :=
  ⟨rfl, fun hn => by
    obtain ⟨b, off, e, a1, a2, hc⟩ := h hn
    refine ⟨b, off, e, a1, a2, fun j hj => ?_⟩
    obtain ⟨us, h3, h4⟩ := hc j hj
    obtain rfl : us = [enc (xs.getD j d)] := h4
    have := h3 0 (by simp)
    simpa [Sh.one] using this⟩
theorem rowG_of_R (h : RowR enc d w lo hi A xs.length xs) : RowG (Sh.one enc d m co h1) w lo hi A xs := fun hn => by
  obtain ⟨b, off, e, a1, a2, hc⟩ := h.2 hn
  refine ⟨b, off, e, a1, a2, fun j hj => ⟨[enc (xs.getD j d)], fun i hi => ?_, rfl⟩⟩
  obtain rfl : i = 0 := by simpa using hi
  simpa [Sh.one] using hc j hj
theorem rowR_of (h : (Sh.row t (Sh.one enc d m co h1)).R w lo hi [.slice A n c] xs) : RowR enc d w lo hi A n xs := by
  obtain ⟨A', c', e, h⟩ := h
  injection e with e _
  injection e with e1 e2 e3
  subst e1 e2
  exact rowR_of_G h
theorem of_rowR (h : RowR enc d w lo hi A n xs) : (Sh.row t (Sh.one enc d m co h1)).R w lo hi [.slice A n c] xs := by
  obtain rfl : xs.length = n := h.1
  exact ⟨A, c, rfl, rowG_of_R h⟩

theorem flat_one (xs : List α) (j : Nat) (hj : j < xs.length) : elemAt 1 (xs.map enc) j = [enc (xs.getD j d)] := by
  have h1 : (xs.map enc).length = xs.length * 1 := by simp
  refine elemAt_ext h1 hj rfl fun i hi => ?_
  obtain rfl : i = 0 := by omega
  simp [List.getD_eq_getElem?_getD, hj]
theorem flat_nil (n : Nat) : (List.range n).flatMap (fun _ => ([] : List Nat)) = [] := by
  induction n with
  | zero => rfl
  | succ n ih => rw [List.range_succ, List.flatMap_append, ih]; rfl
theorem ownsRow_base {base : Nat} {size : Nat} {v : Value} {ys : List Value} (h : w.ownsRow base t size v n ys) {base' : Nat} (hb : ∀ g, v.ownBlock = some g → base' ≤ g) : w.ownsRow base' t size v n ys := by
  refine ⟨h.1, ?_⟩
  rcases h.2 with h2 | ⟨g, cap, cur, e, _, r⟩
  · exact .inl h2
  · exact .inr ⟨g, cap, cur, e, hb g (by rw [e]; rfl), r⟩
theorem O_of_own {base : Nat} (h : w.ownsRow base t 1 (.slice A n c) n (xs.map enc)) : (Sh.row t (Sh.one enc d m co h1)).O w (Value.slice A n c).ownBlock.toList [.slice A n c] xs := by
  obtain rfl : xs.length = n := by have := h.1; simpa using this
  exact ⟨A, c, xs.map enc, fun _ => [], rfl, ownsRow_base h (fun _ _ => Nat.zero_le _), by rw [flat_nil, List.append_nil], fun j hj => ⟨rfl, flat_one xs j hj⟩⟩
theorem own_of_O (h : (Sh.row t (Sh.one enc d m co h1)).O w F [.slice A n c] xs) : w.ownsRow 0 t 1 (.slice A n c) n (xs.map enc) ∧ F = (Value.slice A n c).ownBlock.toList := by
  obtain ⟨A', c', cs, Fs, e, ho, eF, hel⟩ := h
  injection e with e _
  injection e with e1 e2 e3
  subst e1 e2 e3
  have hcs : cs = xs.map enc := by
    have hl : cs.length = xs.length := by have := ho.1; simpa [Sh.one] using this
    apply List.ext_getElem?
    intro j
    by_cases hj : j < xs.length
    · have h2 : elemAt 1 cs j = [enc (xs.getD j d)] := (hel j hj).2
      have h3 := elemAt_get (k := 1) (cs := cs) (j := j) (i := 0) (by omega)
      rw [h2] at h3
      simp only [Nat.mul_one, Nat.add_zero] at h3
      rw [← h3]
      simp [List.getD_eq_getElem?_getD, hj]
    · rw [List.getElem?_eq_none (by omega), List.getElem?_eq_none (by simp; omega)]
  subst hcs
  refine ⟨ho, ?_⟩
  rw [eF, flat_congr (Gs := fun _ => []) fun j hj => (hel j hj).1, flat_nil, List.append_nil]
theorem Own_of_own {base hi : Nat} (h : w.ownsRow base t 1 (.slice A n c) n (xs.map enc)) (hh : w.heap.size ≤ hi) : Own (Sh.row t (Sh.one enc d m co h1)) w base hi [.slice A n c] xs := by
  refine ⟨_, O_of_own h, ?_, fun b hb => ?_⟩
  · cases (Value.slice A n c).ownBlock <;> simp
  · have := h.lt b (by simpa using hb)
    omega
theorem Own_of_ownR {base hi : Nat} {v : Value} (h : OwnR enc w base t v xs) (hh : w.heap.size ≤ hi) : ∃ A c, v = .slice A xs.length c ∧ Own (Sh.row t (Sh.one enc d m co h1)) w base hi [.slice A xs.length c] xs := by
  obtain ⟨⟨A, c, rfl⟩, h2⟩ := h
  exact ⟨A, c, rfl, Own_of_own h2 hh⟩
end

theorem Out.of_grown {w w' : World} {row : Option Nat} (h : w.grownBy w' row) : Out row.toList w w' :=
  ⟨h.os, h.tape, h.output, h.size, fun b h1 h2 => h.block b h1 (fun e => h2 (by rw [← e]; simp))⟩

theorem marksFrom_eq (k : Nat) (xs : List ByteArray) : mkAll shS k xs = marksFrom k xs.length := by
  induction xs generalizing k with
  | nil => rfl
  | cons x xs ih =>
    have e : marksFrom k (x :: xs).length = markT k :: marksFrom (k + 1) xs.length := by
      simp only [marksFrom, List.length_cons, List.range_succ_eq_map, List.map_cons, List.map_map, Nat.add_zero]
      rw [show (fun i => markT (k + i)) ∘ Nat.succ = fun i => markT (k + 1 + i) from funext fun i => by show markT (k + (i + 1)) = _; rw [show k + (i + 1) = k + 1 + i by omega]]
    rw [e, mkAll, ih]
    rfl
theorem marksI_eq (k : Nat) (xs : List Int) : mkAll shI k xs = marksI k xs.length := by
  induction xs generalizing k with
  | nil => rfl
  | cons x xs ih =>
    have e : marksI k (x :: xs).length = (k : Int) :: marksI (k + 1) xs.length := by
      simp only [marksI, List.length_cons, List.range_succ_eq_map, List.map_cons, List.map_map, Nat.add_zero]
      rw [show (fun i => ((k + i : Nat) : Int)) ∘ Nat.succ = fun i => ((k + 1 + i : Nat) : Int) from funext fun i => by show ((k + (i + 1) : Nat) : Int) = _; rw [show k + (i + 1) = k + 1 + i by omega]]
    rw [e, mkAll, ih]
    rfl
theorem cntAll_one {α : Type} {enc : α → Value} {d : α} {m : Nat → α} {co : α → Nat} {h1 : ∀ x, (enc x).oneCell' = true} (xs : List α) : cntAll (Sh.one enc d m co h1) xs = xs.length := by
  induction xs with
  | nil => rfl
  | cons x xs ih => simp only [cntAll, List.map_cons, List.sum_cons, List.length_cons] at ih ⊢; rw [ih]; simp [Sh.one]; omega
theorem costAll_S (xs : List ByteArray) : costAll shS xs = costStrs xs := rfl
theorem costAll_I (xs : List Int) : costAll shI xs = xs.length := by
  have h : (xs.map shI.cost).sum = 0 := by
    induction xs with
    | nil => rfl
    | cons x xs ih => rw [List.map_cons, List.sum_cons, ih]; rfl
  simp only [costAll, h, Nat.add_zero]

theorem markText_f (a : Int) (k : Nat) (w : World) (ha : a = (k : Int)) (h1 : 1 ≤ k) (h2 : k ≤ 4294967296) :
    Calls Tryz.prog 81 #[.int .i64 a] w fun e w' => e = .returned (.string (markT k)) ∧ Below w.heap.size w w' := by
  subst ha
  exact markText_any k w h1 h2

theorem szStringS_f (A : Option Addr) (c : Nat) (xs : List ByteArray) (lo hi : Nat) (left : Int) (w : World) (h : (Sh.row 9 shS).R w lo hi [.slice A xs.length c] xs) (_ : hi ≤ w.heap.size) (hf : (Sh.row 9 shS).fit 9223372036854775807 xs) (hl0 : 0 ≤ left) (hl : left ≤ 1048576) :
    Calls Tryz.prog 11 #[.slice A xs.length c, .int .i64 left] w fun e w' => ∃ m, e = .returned (.int .i64 m) ∧ Left left ((Sh.row 9 shS).cost xs) m ∧ Below w.heap.size w w' :=
  (szStringS_m A xs.length c lo hi left xs w (rowR_of h) hf.1 hl0 hl hf.2).mono fun e w' ⟨m, e1, e2, e3⟩ => ⟨m, e1, by rw [show (Sh.row 9 shS).cost xs = costStrs xs from costAll_S xs]; exact e2, by rw [← e3]; exact Below.refl _ _⟩
theorem toStringS_f (A : Option Addr) (c : Nat) (xs : List ByteArray) (lo hi : Nat) (w : World) (h : (Sh.row 9 shS).R w lo hi [.slice A xs.length c] xs) (hhi : hi ≤ w.heap.size) (hf : (Sh.row 9 shS).fit 1048576 xs) :
    Calls Tryz.prog 21 #[.slice A xs.length c] w fun e w' => ∃ A' c', e = .returned (.slice A' xs.length c') ∧ Own (Sh.row 9 shS) w' w.heap.size w'.heap.size [.slice A' xs.length c'] xs ∧ Below w.heap.size w w' :=
  (toStringS_any A xs.length c lo hi xs w (rowR_of h) hhi hf.1).mono fun e w' ⟨v, e1, e2, e3⟩ => by
    obtain ⟨A', c', rfl, h2⟩ := Own_of_ownR (m := markT) (co := ByteArray.size) (d := ByteArray.empty) (h1 := fun _ => rfl) e2 (Nat.le_refl w'.heap.size)
    exact ⟨A', c', e1, h2, e3⟩
theorem eqStringS_f (A B : Option Addr) (c d : Nat) (xs : List ByteArray) (lo hi lo' hi' : Nat) (w : World) (h : (Sh.row 9 shS).R w lo hi [.slice A xs.length c] xs) (h' : (Sh.row 9 shS).R w lo' hi' [.slice B xs.length d] xs) (_ : hi ≤ w.heap.size) (_ : hi' ≤ w.heap.size) (hf : (Sh.row 9 shS).fit 4294967296 xs) :
    Calls Tryz.prog 32 #[.slice A xs.length c, .slice B xs.length d] w fun e w' => e = .returned (.bool true) ∧ Below w.heap.size w w' :=
  (eqStringS_b A B xs.length xs.length c d lo hi lo' hi' xs xs w (rowR_of h) (rowR_of h') hf.1 hf.1).mono fun e w' ⟨e1, e2⟩ => ⟨by rw [e1]; simp, e2⟩
theorem markStringS_f (A : Option Addr) (c k : Nat) (a : Int) (xs : List ByteArray) (F : List Nat) (w : World) (h : (Sh.row 9 shS).O w F [.slice A xs.length c] xs) (_ : F.Nodup) (ha : a = (k : Int)) (h1 : 1 ≤ k) (h2 : k + (Sh.row 9 shS).cnt xs ≤ 4294967000) :
    Calls Tryz.prog 39 #[.slice A xs.length c, .int .i64 a] w fun e w' => ∃ r : Int, e = .returned (.int .i64 r) ∧ r = ((k + (Sh.row 9 shS).cnt xs : Nat) : Int) ∧ (Sh.row 9 shS).O w' F [.slice A xs.length c] ((Sh.row 9 shS).mark k xs) ∧ Out F w w' := by
  subst ha
  obtain ⟨ho, rfl⟩ := own_of_O h
  have hc : (Sh.row 9 shS).cnt xs = xs.length := cntAll_one xs
  rw [hc] at h2 ⊢
  refine (markStringS_any 0 A xs.length c k xs w ho h1 (by omega)).mono fun e w' ⟨e1, e2, e3⟩ => ⟨_, e1, rfl, ?_, Out.of_grown e3⟩
  rw [← marksFrom_eq] at e2
  exact O_of_own e2
theorem heldStringS_f (A : Option Addr) (n c k : Nat) (a : Int) (xs : List ByteArray) (lo hi : Nat) (w : World) (h : (Sh.row 9 shS).R w lo hi [.slice A n c] ((Sh.row 9 shS).mark k xs)) (hn : n = xs.length) (hhi : hi ≤ w.heap.size) (_ : (Sh.row 9 shS).fit 4294967296 xs) (ha : a = (k : Int)) (h1 : 1 ≤ k) (h2 : k + (Sh.row 9 shS).cnt xs ≤ 4294967000) :
    Calls Tryz.prog 46 #[.slice A n c, .int .i64 a] w fun e w' => ∃ r : Int, e = .returned (.int .i64 r) ∧ r = ((k + (Sh.row 9 shS).cnt xs : Nat) : Int) ∧ Below w.heap.size w w' := by
  subst ha hn
  have hc : (Sh.row 9 shS).cnt xs = xs.length := cntAll_one xs
  rw [hc] at h2 ⊢
  have hR := rowR_of h
  rw [show (Sh.row 9 shS).mark k xs = marksFrom k xs.length from marksFrom_eq k xs] at hR
  exact (heldStringS_any A xs.length c k lo hi w hR hhi h1 (by omega)).mono fun e w' ⟨e1, e2⟩ => ⟨_, e1, rfl, e2⟩
end Go.Proofs.YtlodlplfmpikjaaGreat
