/- Shapes of texts, numbers, truth values; the walks of the slices of texts and numbers in these words. -/
import Derived.Test.YtgnmollbnopigaaGreatJoinSTAd
import Derived.Test.YtgnmollbnopigaaGreatJoinSTAc
import Derived.StillTailTactics
import Derived.Test.YtgnmollbnopigaaGreatJoinSTAb
import Derived.Deep.Slices
namespace Go.Proofs.YtgnmollbnopigaaGreat
open Go.RowKit
abbrev shS : Sh ByteArray := Sh.one Value.string ByteArray.empty markT ByteArray.size (fun _ => rfl)
abbrev shI : Sh Int := Sh.one (Value.int .i64) 0 (fun k => (k : Int)) (fun _ => 0) (fun _ => rfl)
abbrev shB : Sh Bool := Sh.one Value.bool false (fun k => ((k : Nat) : Int) % 3 == 0) (fun _ => 0) (fun _ => rfl)
section
variable {α : Type} {enc : α → Value} {d : α} {m : Nat → α} {co : α → Nat} {h1 : ∀ x, (enc x).oneCell' = true} {w : World} {lo hi : Nat} {A : Option Addr} {xs : List α} {t : TypeId} {n c : Nat} {F : List Nat}
theorem rowR_of_G (h : RowG (Sh.one enc d m co h1) w lo hi A xs) : RowR enc d w lo hi A xs.length xs :=
 ⟨rfl, fun hn => by
  obtain ⟨b, off, e, a1, a2, hc⟩ := h hn
  refine ⟨b, off, e, a1, a2, fun j hj => ?_⟩
  obtain ⟨us, h3, h4⟩ := hc j hj
  obtain rfl : us = [enc (xs.getD j d)] := h4
  have := h3 0 (by simp)
  simpa [Sh.one] using this⟩
theorem rowR_of (h : (Sh.row t (Sh.one enc d m co h1)).R w lo hi [.slice A n c] xs) : RowR enc d w lo hi A n xs := by
 obtain ⟨A', c', e, h⟩ := h
 injection e with e _
 injection e with e1 e2 e3
 subst e1 e2
 exact rowR_of_G h
theorem flat_one (xs : List α) (j : Nat) (hj : j < xs.length) : elemAt 1 (xs.map enc) j = [enc (xs.getD j d)] := by
 have h1 : (xs.map enc).length = xs.length * 1 := by simp
 refine elemAt_ext h1 hj rfl fun i hi => ?_
 obtain rfl : i = 0 := by omega
 simp [List.getD_eq_getElem?_getD, hj]
theorem flat_nil (n : Nat) : (List.range n).flatMap (fun _ => ([] : List Nat)) = [] := by
 induction n with
 | zero => rfl
 | succ n ih => rw [List.range_succ, List.flatMap_append, ih]; rfl
theorem ownsRow_base {base : Nat} {size : Nat} {v : Value} {ys : List Value} (h : w.ownsRow base t size v n ys) {base' : Nat} (hb : ∀ g, v.ownBlock = some g → base' ≤ g) : w.ownsRow base' t size v n ys := by
 refine ⟨h.1, ?_⟩
 rcases h.2 with h2 | ⟨g, cap, cur, e, _, r⟩
 ·exact .inl h2
 ·exact .inr ⟨g, cap, cur, e, hb g (by rw [e]; rfl), r⟩
theorem O_of_own {base : Nat} (h : w.ownsRow base t 1 (.slice A n c) n (xs.map enc)) : (Sh.row t (Sh.one enc d m co h1)).O w (Value.slice A n c).ownBlock.toList [.slice A n c] xs := by
 obtain rfl : xs.length = n := by have := h.1; simpa using this
 exact ⟨A, c, xs.map enc, fun _ => [], rfl, ownsRow_base h (fun _ _ => Nat.zero_le _), by rw [flat_nil, List.append_nil], fun j hj => ⟨rfl, flat_one xs j hj⟩⟩
theorem Own_of_own {base hi : Nat} (h : w.ownsRow base t 1 (.slice A n c) n (xs.map enc)) (hh : w.heap.size ≤ hi) : Own (Sh.row t (Sh.one enc d m co h1)) w base hi [.slice A n c] xs := by
 refine ⟨_, O_of_own h, ?_, fun b hb => ?_⟩
 ·cases (Value.slice A n c).ownBlock <;> simp
 ·have := h.lt b (by simpa using hb)
  omega
theorem Own_of_ownR {base hi : Nat} {v : Value} (h : OwnR enc w base t v xs) (hh : w.heap.size ≤ hi) : ∃ A c, v = .slice A xs.length c ∧ Own (Sh.row t (Sh.one enc d m co h1)) w base hi [.slice A xs.length c] xs := by
 obtain ⟨⟨A, c, rfl⟩, h2⟩ := h
 exact ⟨A, c, rfl, Own_of_own h2 hh⟩
end
theorem costAll_S (xs : List ByteArray) : costAll shS xs = costStrs xs := rfl
theorem costAll_I (xs : List Int) : costAll shI xs = xs.length := by
 have h : (xs.map shI.cost).sum = 0 := by
  induction xs with
  | nil => rfl
  | cons x xs ih => rw [List.map_cons, List.sum_cons, ih]; rfl
 simp only [costAll, h, Nat.add_zero]
theorem szStringS_f (A : Option Addr) (c : Nat) (xs : List ByteArray) (lo hi : Nat) (left : Int) (w : World) (h : (Sh.row 9 shS).R w lo hi [.slice A xs.length c] xs) (_ : hi ≤ w.heap.size) (hf : (Sh.row 9 shS).fit 9223372036854775807 xs) (hl0 : 0 ≤ left) (hl : left ≤ 1048576) :
  Calls Tryz.prog 36 #[.slice A xs.length c, .int .i64 left] w fun e w' => ∃ m, e = .returned (.int .i64 m) ∧ Left left ((Sh.row 9 shS).cost xs) m ∧ Below w.heap.size w w' :=
 (szStringS_m A xs.length c lo hi left xs w (rowR_of h) hf.1 hl0 hl hf.2).mono fun e w' ⟨m, e1, e2, e3⟩ => ⟨m, e1, by rw [show (Sh.row 9 shS).cost xs = costStrs xs from costAll_S xs]; exact e2, by rw [← e3]; exact Below.refl _ _⟩
theorem szInt64S_f (A : Option Addr) (c : Nat) (xs : List Int) (lo hi : Nat) (left : Int) (w : World) (_ : (Sh.row 2 shI).R w lo hi [.slice A xs.length c] xs) (_ : hi ≤ w.heap.size) (hf : (Sh.row 2 shI).fit 9223372036854775807 xs) (hl0 : 0 ≤ left) (hl : left ≤ 1048576) :
  Calls Tryz.prog 111 #[.slice A xs.length c, .int .i64 left] w fun e w' => ∃ m, e = .returned (.int .i64 m) ∧ Left left ((Sh.row 2 shI).cost xs) m ∧ Below w.heap.size w w' :=
 (szInt64S_m A xs.length c left w hf.1 hl0 hl).mono fun e w' ⟨m, e1, e2, e3⟩ => ⟨m, e1, by rw [show (Sh.row 2 shI).cost xs = xs.length from costAll_I xs]; exact e2, by rw [← e3]; exact Below.refl _ _⟩
theorem toStringS_f (A : Option Addr) (c : Nat) (xs : List ByteArray) (lo hi : Nat) (w : World) (h : (Sh.row 9 shS).R w lo hi [.slice A xs.length c] xs) (hhi : hi ≤ w.heap.size) (hf : (Sh.row 9 shS).fit 1048576 xs) :
  Calls Tryz.prog 40 #[.slice A xs.length c] w fun e w' => ∃ A' c', e = .returned (.slice A' xs.length c') ∧ Own (Sh.row 9 shS) w' w.heap.size w'.heap.size [.slice A' xs.length c'] xs ∧ Below w.heap.size w w' :=
 (toStringS_any A xs.length c lo hi xs w (rowR_of h) hhi hf.1).mono fun e w' ⟨v, e1, e2, e3⟩ => by
  obtain ⟨A', c', rfl, h2⟩ := Own_of_ownR (m := markT) (co := ByteArray.size) (d := ByteArray.empty) (h1 := fun _ => rfl) e2 (Nat.le_refl w'.heap.size)
  exact ⟨A', c', e1, h2, e3⟩
theorem toInt64S_f (A : Option Addr) (c : Nat) (xs : List Int) (lo hi : Nat) (w : World) (h : (Sh.row 2 shI).R w lo hi [.slice A xs.length c] xs) (hhi : hi ≤ w.heap.size) (hf : (Sh.row 2 shI).fit 1048576 xs) :
  Calls Tryz.prog 133 #[.slice A xs.length c] w fun e w' => ∃ A' c', e = .returned (.slice A' xs.length c') ∧ Own (Sh.row 2 shI) w' w.heap.size w'.heap.size [.slice A' xs.length c'] xs ∧ Below w.heap.size w w' :=
 (toInt64S_any A xs.length c lo hi xs w (rowR_of h) hhi hf.1).mono fun e w' ⟨v, e1, e2, e3⟩ => by
  obtain ⟨A', c', rfl, h2⟩ := Own_of_ownR (m := fun k => (k : Int)) (co := fun _ => 0) (d := (0 : Int)) (h1 := fun _ => rfl) e2 (Nat.le_refl w'.heap.size)
  exact ⟨A', c', e1, h2, e3⟩
theorem eqStringS_f (A B : Option Addr) (c d : Nat) (xs : List ByteArray) (lo hi lo' hi' : Nat) (w : World) (h : (Sh.row 9 shS).R w lo hi [.slice A xs.length c] xs) (h' : (Sh.row 9 shS).R w lo' hi' [.slice B xs.length d] xs) (_ : hi ≤ w.heap.size) (_ : hi' ≤ w.heap.size) (hf : (Sh.row 9 shS).fit 4294967296 xs) :
  Calls Tryz.prog 44 #[.slice A xs.length c, .slice B xs.length d] w fun e w' => e = .returned (.bool true) ∧ Below w.heap.size w w' :=
 (eqStringS_b A B xs.length xs.length c d lo hi lo' hi' xs xs w (rowR_of h) (rowR_of h') hf.1 hf.1).mono fun e w' ⟨e1, e2⟩ => ⟨by rw [e1]; simp, e2⟩
theorem eqInt64S_f (A B : Option Addr) (c d : Nat) (xs : List Int) (lo hi lo' hi' : Nat) (w : World) (h : (Sh.row 2 shI).R w lo hi [.slice A xs.length c] xs) (h' : (Sh.row 2 shI).R w lo' hi' [.slice B xs.length d] xs) (_ : hi ≤ w.heap.size) (_ : hi' ≤ w.heap.size) (hf : (Sh.row 2 shI).fit 4294967296 xs) :
  Calls Tryz.prog 166 #[.slice A xs.length c, .slice B xs.length d] w fun e w' => e = .returned (.bool true) ∧ Below w.heap.size w w' :=
 (eqInt64S_any A B xs.length xs.length c d lo hi lo' hi' xs xs w (rowR_of h) (rowR_of h') hf.1 hf.1).mono fun e w' ⟨e1, e2⟩ => ⟨by rw [e1]; simp, e2⟩
end Go.Proofs.YtgnmollbnopigaaGreat
/- Shapes: stores behind what is owned; a row filled element by element from what a call gave. -/
namespace Go.Proofs.YtgnmollbnopigaaGreat
open Go.RowKit
section
variable {α : Type} {s : Sh α} {w W : World} {lo hi : Nat} {vs : List Value} {x : α}
theorem Own.setCell (h : Own s w lo hi vs x) {p : Addr} (hp : p.block < lo) (u : Value) : Own s (w.setCell p u) lo hi vs x := h.above ((Above.refl lo w).setCell hp u) (Nat.le_refl _)
theorem Fill.addM {t : TypeId} {g : Nat} {cs : Array Value} {Fs : Nat → List Nat} {xs : List α} {j : Nat} (h : Fill s t w g cs Fs xs j) (hj : j < xs.length) (hm : Mid [g] g t cs (j * s.k) s.k w W vs) (hlo : w.heap.size ≤ lo) (ho : Own s W lo hi vs (xs.getD j s.d)) :
  ∃ cs' Fs', Fill s t W g cs' Fs' xs (j + 1) := by
 obtain ⟨⟨cs', h1, h2⟩, h3⟩ := hm
 obtain ⟨Fs', hf⟩ := h.add hj hlo ho h1 h2 fun b hb hne => h3.block b hb (by simp [hne])
 exact ⟨cs', Fs', hf⟩
theorem Fill.room {t : TypeId} {g : Nat} {cs : Array Value} {Fs : Nat → List Nat} {xs : List α} {j : Nat} (h : Fill s t w g cs Fs xs j) (hj : j < xs.length) : j * s.k + s.k ≤ cs.size := by
 have h1 : (j + 1) * s.k ≤ xs.length * s.k := Nat.mul_le_mul_right _ hj
 rw [Nat.add_mul] at h1
 rw [h.size]; omega
end
end Go.Proofs.YtgnmollbnopigaaGreat
/- Shapes: how many marks a value takes, set against its cost; facts for the walk of a law. Over any program. -/
namespace Go.Proofs.YtgnmollbnopigaaGreat
open Go.RowKit
section
variable {α β : Type} {s : Sh α} {s' : Sh β}
theorem loc_sh (s : Sh α) (lo hi : Nat) (vs : List Value) (x : α) : Loc lo hi (fun W => s.R W lo hi vs x) := fun _ _ hk h => s.R_keep h hk
end
end Go.Proofs.YtgnmollbnopigaaGreat
/- An argument that came in, opened as a shape: texts, numbers, truth values, slices, structs; over any program. -/
namespace Go.Proofs.YtgnmollbnopigaaGreat
open Go.ChangeShapes Go.WideShapes Go.ChangeAt Go.RowKit Go.Deep
section
variable {H : Type} {enc : TypeId × Value → H} {P : Program} {w : World} {base : Nat} {held : Bool} {α β : Type} {s : Sh α} {s' : Sh β} {t : TypeId}
structure Opn (enc : TypeId × Value → H) (P : Program) (w : World) (base : Nat) (held : Bool) (t : TypeId) (s : Sh α) : Prop where
 cells : P.cellsOf t = s.k
 opn : ∀ {fuel : Nat} {cs : List Value} {x : DataW H × List MemPlace}, DataW.trod enc P w base (fun _ => true) held fuel t cs = some x → ∃ y, s.R w 0 w.heap.size cs y ∧ s.fit 9223372036854775807 y
def OpnF (enc : TypeId × Value → H) (P : Program) (w : World) (base : Nat) (held : Bool) (l : List (TypeId × Nat)) (o : Nat) (s : Sh α) : Prop :=
 ∀ cs : List Value, cs.length = o + s.k → (∀ (i : Nat) (t : TypeId) (o' : Nat), l[i]? = some (t, o') → ∃ n x, DataW.trod enc P w base (fun _ => true) held n t ((cs.drop o').take (P.cellsOf t)) = some x) →
  ∃ y, s.R w 0 w.heap.size (cs.drop o) y ∧ s.fit 9223372036854775807 y
theorem opnF_one (o : Nat) (h : Opn enc P w base held t s) : OpnF enc P w base held [(t, o)] o s := fun cs hl hf => by
 obtain ⟨n, x, hx⟩ := hf 0 t o rfl
 rw [h.cells, List.take_of_length_le (by simp; omega)] at hx
 exact h.opn hx
theorem opnF_cons {l : List (TypeId × Nat)} {o o' : Nat} (h : Opn enc P w base held t s) (hl : OpnF enc P w base held l o' s') (ho : o' = o + s.k) : OpnF enc P w base held ((t, o) :: l) o (s.prod s') := fun cs hn hf => by
 subst ho
 obtain ⟨n, x, hx⟩ := hf 0 t o rfl
 rw [h.cells] at hx
 obtain ⟨y, hy, fy⟩ := h.opn hx
 obtain ⟨z, hz, fz⟩ := hl cs (by rw [hn]; show o + (s.k + s'.k) = _; omega) (fun i t o' hi => hf (i + 1) t o' hi)
 refine ⟨(y, z), ⟨_, _, ?_, hy, hz⟩, fy, fz⟩
 rw [← List.drop_drop, List.take_append_drop]
theorem opn_struct {fs : Array Field} {l : List (TypeId × Nat)} (hu : P.underlying t = some (.struct fs)) (hfs : fs.toList.map (fun f => (f.type, f.offset)) = l) (hc : P.cellsOf t = s.k) (h : OpnF enc P w base held l 0 s) : Opn enc P w base held t s :=
 ⟨hc, fun {fuel cs x} hx => by
  obtain ⟨xs, n, _, _, hlen, hxl, hg⟩ := DataW.trod_struct hu hx
  have F := field_of hfs hxl hg
  obtain ⟨y, h1, h2⟩ := h cs (by rw [hlen, hc]; omega) (fun i t o' hi => ⟨n, F i t o' hi⟩)
  exact ⟨y, h1, h2⟩⟩
theorem opn_S (hu : P.underlying t = some .string) (hc : P.cellsOf t = 1) : Opn enc P w base held t shS := ⟨hc, fun h => by
 obtain ⟨x, rfl, hx⟩ := open_str hu h
 exact ⟨x, rfl, hx⟩⟩
theorem opn_I (hu : P.underlying t = some (.int .i64)) (hc : P.cellsOf t = 1) : Opn enc P w base held t shI := ⟨hc, fun h => by
 obtain ⟨x, rfl, hx⟩ := open_i64 hu h
 exact ⟨x, rfl, by show (0 : Nat) ≤ _; omega⟩⟩
theorem opn_B (hu : P.underlying t = some .bool) (hc : P.cellsOf t = 1) : Opn enc P w base held t shB := ⟨hc, fun h => by
 obtain ⟨x, h1, h2⟩ := DataW.trod_bool hu h
 subst h1
 exact ⟨x, rfl, by show (0 : Nat) ≤ _; omega⟩⟩
theorem list_each {α : Type} (d : α) (Q : Nat → α → Prop) : ∀ n : Nat, (∀ i, i < n → ∃ x, Q i x) → ∃ xs : List α, xs.length = n ∧ ∀ i, i < n → Q i (xs.getD i d)
 | 0, _ => ⟨[], rfl, fun i hi => absurd hi (by omega)⟩
 | n + 1, h => by
  obtain ⟨xs, hl, hx⟩ := list_each d Q n (fun i hi => h i (by omega))
  obtain ⟨y, hy⟩ := h n (by omega)
  refine ⟨xs ++ [y], by simp [hl], fun i hi => ?_⟩
  by_cases e : i < n
  ·have : (xs ++ [y]).getD i d = xs.getD i d := by
    rw [List.getD_eq_getElem?_getD, List.getD_eq_getElem?_getD, List.getElem?_append_left (by omega)]
   rw [this]; exact hx i e
  ·obtain rfl : i = n := by omega
   have : (xs ++ [y]).getD i d = y := by
    rw [List.getD_eq_getElem?_getD, List.getElem?_append_right (by omega), hl]; simp
   rw [this]; exact hy
theorem opn_row {e te : TypeId} (hu : P.underlying t = some (.slice e)) (hc : P.cellsOf t = 1) (hk : 0 < s.k) (h : Opn enc P w base held e s) : Opn enc P w base held t (Sh.row te s) := ⟨hc, fun {fuel cs x} hx => by
 rcases open_slice hu hx with ⟨rfl, _⟩ | ⟨a, len, cap, m, n, D, Pl, rfl, hb, hl, hm, hmm, _, hi⟩
 ·exact ⟨[], ⟨none, 0, rfl, fun h => absurd h (by simp)⟩, by simp, fun x hx => by cases hx⟩
 ·simp only [if_true] at hmm
  subst hmm
  have hsp0 : 0 < len → a.spot = none ∧ a.block < w.heap.size := fun h0 => by
   obtain ⟨cs', hc', ht'⟩ := hi 0 (by omega)
   obtain ⟨_, hl0, hat⟩ := World.cells?_some hc'
   rw [h.cells] at hl0 hat
   have h00 := hat 0 (by omega)
   obtain ⟨v, hv⟩ : ∃ v, cs'[0]? = some v := ⟨_, List.getElem?_eq_getElem (by omega)⟩
   rw [hv, Nat.zero_mul] at h00
   have e0 : a.add 0 = a := by simp [Addr.add]
   rw [e0, e0] at h00
   have := block_of_cell h00
   exact ⟨this.2, this.1⟩
  have each : ∀ i, i < len → ∃ y, (s.fit 9223372036854775807 y ∧ a.spot = none ∧ a.block < w.heap.size) ∧ ∃ us, CellsAt w a.block (a.off + i * s.k) us ∧ s.R w 0 w.heap.size us y := by
   intro i hil
   obtain ⟨cs', hc', ht'⟩ := hi i (by omega)
   obtain ⟨y, hy, hf⟩ := h.opn ht'
   obtain ⟨_, hl0, hat⟩ := World.cells?_some hc'
   rw [h.cells] at hl0 hat
   have hsp := hsp0 (by omega)
   obtain ⟨ab, ao, asp⟩ := a
   obtain ⟨e1, e2⟩ := hsp
   simp only at e1 e2
   subst e1
   refine ⟨y, ⟨hf, rfl, e2⟩, cs', fun j hj => ?_, hy⟩
   have := hat j (by omega)
   have hadd : ∀ o j, (⟨ab, o, none⟩ : Addr).add j = ⟨ab, o + j, none⟩ := fun o j => by unfold Addr.add; split <;> simp_all
   rw [hadd, hadd] at this
   exact this
  obtain ⟨xs, hxl, hxs⟩ := list_each s.d (fun i y => (s.fit 9223372036854775807 y ∧ a.spot = none ∧ a.block < w.heap.size) ∧ ∃ us, CellsAt w a.block (a.off + i * s.k) us ∧ s.R w 0 w.heap.size us y) len each
  refine ⟨xs, ⟨some a, _, by rw [hxl], fun hpos => ?_⟩, by unfold maxLen at hm; omega, fun y hy => ?_⟩
  ·obtain ⟨⟨_, hsp, hlt⟩, _⟩ := hxs 0 (by omega)
   obtain ⟨ab, ao, asp⟩ := a
   simp only at hsp
   subst hsp
   exact ⟨ab, ao, rfl, by omega, hlt, fun j hj => (hxs j (by omega)).2⟩
  ·obtain ⟨j, hj, e⟩ := List.getElem_of_mem hy
   have := (hxs j (by omega)).1.1
   rw [List.getD_eq_getElem?_getD, List.getElem?_eq_getElem hj] at this
   rw [← e]; exact this⟩
end
end Go.Proofs.YtgnmollbnopigaaGreat
