/- Shapes: rows element by element; rows that are filled, that grow, that are marked; over any program. -/
import Derived.Test.YtfibjcaidnofmaaGreatDoorJoinEXAa
import Derived.Test.YtfibjcaidnofmaaGreatDoorJoinEXAd
import Derived.StillTailTactics
import Derived.Deep.RegionHeld3
import Derived.Test.YtfibjcaidnofmaaGreatDoorShelfM
import Derived.Test.YtfibjcaidnofmaaGreatDoorShelfB
import Derived.Shelf.Strings.BuilderK
namespace Go.Proofs.YtfibjcaidnofmaaGreatDoor
open Go.RowKit

theorem flat_mem {n : Nat} {Fs : Nat → List Nat} {j b : Nat} (hj : j < n) (hb : b ∈ Fs j) : b ∈ (List.range n).flatMap Fs := List.mem_flatMap.2 ⟨j, List.mem_range.2 hj, hb⟩
theorem flat_nodup {n : Nat} {Fs : Nat → List Nat} (h : ((List.range n).flatMap Fs).Nodup) : (∀ j, j < n → (Fs j).Nodup) ∧ ∀ i j, i < n → j < n → i ≠ j → ∀ b ∈ Fs i, b ∉ Fs j := by
  induction n with
  | zero => exact ⟨fun j hj => absurd hj (by omega), fun i j hi => absurd hi (by omega)⟩
  | succ n ih =>
    rw [List.range_succ, List.flatMap_append] at h
    obtain ⟨h1, h2, h3⟩ := List.nodup_append.1 h
    obtain ⟨a1, a2⟩ := ih h1
    have e1 : [n].flatMap Fs = Fs n := by simp
    rw [e1] at h2 h3
    refine ⟨fun j hj => ?_, fun i j hi hj hij b hb hb' => ?_⟩
    · by_cases e : j = n
      · rw [e]; exact h2
      · exact a1 j (by omega)
    · by_cases e : j = n
      · subst e
        exact h3 b (flat_mem (by omega) hb) b hb' rfl
      · by_cases e2 : i = n
        · subst e2
          exact h3 b (flat_mem (by omega) hb') b hb rfl
        · exact a2 i j (by omega) (by omega) hij b hb hb'
theorem flat_nodup_succ {n : Nat} {Fs : Nat → List Nat} (h1 : ((List.range n).flatMap Fs).Nodup) (h2 : (Fs n).Nodup) (h3 : ∀ i, i < n → ∀ b ∈ Fs i, b ∉ Fs n) : ((List.range (n + 1)).flatMap Fs).Nodup := by
  rw [List.range_succ, List.flatMap_append]
  have e1 : [n].flatMap Fs = Fs n := by simp
  rw [e1]
  refine List.nodup_append.2 ⟨h1, h2, fun b hb c hc e => ?_⟩
  obtain ⟨i, hi, hb⟩ := List.mem_flatMap.1 hb
  exact h3 i (List.mem_range.1 hi) b hb (by rw [e]; exact hc)
theorem flat_congr {n : Nat} {Fs Gs : Nat → List Nat} (h : ∀ j, j < n → Fs j = Gs j) : (List.range n).flatMap Fs = (List.range n).flatMap Gs := by
  induction n with
  | zero => rfl
  | succ n ih => rw [List.range_succ, List.flatMap_append, List.flatMap_append, ih fun j hj => h j (by omega)]; simp [h n (by omega)]

theorem getD_in {α : Type} {fs : List α} {d : α} {k : Nat} (h : k < fs.length) : fs.getD k d ∈ fs := by
  rw [List.getD_eq_getElem?_getD, List.getElem?_eq_getElem h]
  exact List.getElem_mem _
theorem heap_alloc_size1 (w : World) (o : Obj) : (w.alloc o).heap.size = w.heap.size + 1 := by simp

section
variable {α : Type} {s : Sh α} {w : World} {t : TypeId} {F : List Nat} {vs : List Value} {xs : List α}

end

/-! ### A row that was made, filled from its head on -/

structure Fill {α : Type} (s : Sh α) (t : TypeId) (w : World) (g : Nat) (cs : Array Value) (Fs : Nat → List Nat) (xs : List α) (j : Nat) : Prop where
  blk : Blk w g t cs
  size : cs.size = xs.length * s.k
  own : ∀ i, i < j → s.O w (Fs i) (elemAt s.k cs.toList i) (xs.getD i s.d)
  behind : ∀ i, i < j → ∀ b ∈ Fs i, g < b
  nodup : ((List.range j).flatMap Fs).Nodup

section
variable {α : Type} {s : Sh α} {w : World} {t : TypeId} {xs : List α} {g : Nat} {cs : Array Value} {Fs : Nat → List Nat}
theorem Fill.start (h : Blk w g t cs) (hs : cs.size = xs.length * s.k) : Fill s t w g cs (fun _ => []) xs 0 :=
  ⟨h, hs, fun i hi => absurd hi (by omega), fun i hi => absurd hi (by omega), by simp⟩
theorem Fill.below {w' : World} {j : Nat} (h : Fill s t w g cs Fs xs j) (hb : Below w.heap.size w w') : Fill s t w' g cs Fs xs j :=
  ⟨h.blk.below hb h.blk.lt, h.size, fun i hi => s.O_keep (h.own i hi) fun b hb' => hb.block b (s.O_lt (h.own i hi) b hb'), h.behind, h.nodup⟩
/-- One element more: it owns what was laid since, and its cells were written; nothing else changed. -/
theorem Fill.add {w2 : World} {j : Nat} {us : List Value} {cs' : Array Value} {lo hi : Nat} (h : Fill s t w g cs Fs xs j) (hj : j < xs.length) (hlo : w.heap.size ≤ lo) (ho : Own s w2 lo hi us (xs.getD j s.d))
    (hb : Blk w2 g t cs') (hu : Upd cs cs' (j * s.k) s.k us) (hk : ∀ b, b < w.heap.size → b ≠ g → w2.heap[b]? = w.heap[b]?) :
    ∃ Fs', Fill s t w2 g cs' Fs' xs (j + 1) := by
  obtain ⟨F, o1, o2, o3⟩ := ho
  have hg := h.blk.lt
  have hjk : j * s.k + s.k ≤ xs.length * s.k := by
    have h1 : (j + 1) * s.k ≤ xs.length * s.k := Nat.mul_le_mul_right _ hj
    rw [Nat.add_mul] at h1; omega
  have hsz : cs'.size = xs.length * s.k := by rw [hu.size, h.size]
  have hl : cs'.toList.length = xs.length * s.k := by simp [hsz]
  have hl0 : cs.toList.length = xs.length * s.k := by simp [h.size]
  have old : ∀ i, i < j → (fun i => if i = j then F else Fs i) i = Fs i := fun i hi => by show (if i = j then F else Fs i) = Fs i; rw [if_neg (by omega)]
  refine ⟨fun i => if i = j then F else Fs i, hb, hsz, fun i hi => ?_, fun i hi b hb' => ?_, ?_⟩
  · by_cases e : i = j
    · subst e
      simp only [if_true]
      rw [elemAt_ext hl hj hu.len fun q hq => by rw [Array.getElem?_toList]; exact hu.here q hq]
      exact o1
    · simp only [if_neg e]
      have hi' : i < j := by omega
      rw [elemAt_ext (us := elemAt s.k cs.toList i) hl (by omega : i < xs.length) (elemAt_len hl0 (by omega)) fun q hq => ?_]
      · exact s.O_keep (h.own i hi') fun b hb' => hk b (s.O_lt (h.own i hi') b hb') (by have := h.behind i hi' b hb'; omega)
      · rw [Array.getElem?_toList, elemAt_get hq, Array.getElem?_toList]
        refine hu.far _ (.inl ?_)
        have h9 : (i + 1) * s.k ≤ j * s.k := Nat.mul_le_mul_right _ hi'
        rw [Nat.add_mul] at h9; omega
  · by_cases e : i = j
    · subst e
      simp only [if_true] at hb'
      have := o3 b hb'; omega
    · simp only [if_neg e] at hb'
      exact h.behind i (by omega) b hb'
  · refine flat_nodup_succ ?_ ?_ fun i hi b hb' hb2 => ?_
    · rw [flat_congr old]; exact h.nodup
    · simp only [if_true]; exact o2
    · simp only [if_true] at hb2
      rw [if_neg (by omega)] at hb'
      have := s.O_lt (h.own i hi) b hb'
      have := o3 b hb2; omega
theorem Fill.done (h : Fill s t w g cs Fs xs xs.length) (hm : xs.length ≤ maxLen) : Own (Sh.row t s) w g w.heap.size [.slice (some ⟨g, 0, none⟩) xs.length xs.length] xs := by
  have hg := h.blk.lt
  refine ⟨g :: (List.range xs.length).flatMap Fs, ⟨some ⟨g, 0, none⟩, xs.length, cs.toList, Fs, rfl, ⟨by simp [h.size], .inr ⟨g, xs.length, cs, rfl, by omega, h.blk, Nat.le_refl _, hm, h.size, ?_⟩⟩, rfl, h.own⟩, ?_, fun b hb => ?_⟩
  · rw [List.take_of_length_le (by simp [h.size])]
  · refine List.nodup_cons.2 ⟨fun hb => ?_, h.nodup⟩
    obtain ⟨i, hi, hb⟩ := List.mem_flatMap.1 hb
    have := h.behind i (List.mem_range.1 hi) g hb; omega
  · rcases List.mem_cons.1 hb with rfl | hb
    · exact ⟨Nat.le_refl _, hg⟩
    · obtain ⟨i, hi, hb⟩ := List.mem_flatMap.1 hb
      have h1 := h.behind i (List.mem_range.1 hi) b hb
      have h2 := s.O_lt (h.own i (List.mem_range.1 hi)) b hb
      omega
end

/-! ### Marks, element by element -/

section
variable {α : Type} (s : Sh α)
theorem take_succ_getD {xs : List α} {j : Nat} (hj : j < xs.length) : xs.take (j + 1) = xs.take j ++ [xs.getD j s.d] := by
  rw [List.take_succ_eq_append_getElem hj, List.getD_eq_getElem?_getD, List.getElem?_eq_getElem hj]; rfl
end

/-! ### What changes but the blocks G -/

structure Out (G : List Nat) (w w' : World) : Prop where
  os : w'.os = w.os
  tape : w'.tape = w.tape
  output : w'.output = w.output
  size : w.heap.size ≤ w'.heap.size
  block : ∀ b, b < w.heap.size → b ∉ G → w'.heap[b]? = w.heap[b]?
theorem Out.refl (G : List Nat) (w : World) : Out G w w := ⟨rfl, rfl, rfl, Nat.le_refl _, fun _ _ _ => rfl⟩
theorem Out.below {G : List Nat} {w w1 w2 : World} (h : Out G w w1) (hb : Below w1.heap.size w1 w2) : Out G w w2 :=
  ⟨hb.os.trans h.os, hb.tape.trans h.tape, hb.output.trans h.output, Nat.le_trans h.size hb.size, fun b h1 h2 => (hb.block b (Nat.lt_of_lt_of_le h1 h.size)).trans (h.block b h1 h2)⟩
theorem Out.trans {G G' : List Nat} {w w1 w2 : World} (h : Out G w w1) (h' : Out G' w1 w2) (hs : ∀ b ∈ G', b ∈ G) : Out G w w2 :=
  ⟨h'.os.trans h.os, h'.tape.trans h.tape, h'.output.trans h.output, Nat.le_trans h.size h'.size, fun b h1 h2 => (h'.block b (Nat.lt_of_lt_of_le h1 h.size) (fun h3 => h2 (hs b h3))).trans (h.block b h1 h2)⟩
theorem Out.more {G G' : List Nat} {w w1 : World} (h : Out G w w1) (hs : ∀ b ∈ G, b ∈ G') : Out G' w w1 := ⟨h.os, h.tape, h.output, h.size, fun b h1 h2 => h.block b h1 fun h3 => h2 (hs b h3)⟩
theorem Out.setCell {G : List Nat} {w w1 : World} (h : Out G w w1) {p : Addr} (hp : p.block ∈ G) (u : Value) : Out G w (w1.setCell p u) :=
  ⟨h.os, h.tape, h.output, by simpa using h.size, fun b h1 h2 => (Below.heap_setCell w1 p u b (fun e => h2 (by rw [e]; exact hp))).trans (h.block b h1 h2)⟩
theorem Out.within {G : List Nat} {w w1 : World} {lo hi : Nat} (h : Out G w w1) (hr : ∀ b ∈ G, lo ≤ b ∧ b < hi) : Within lo hi w w1 :=
  ⟨h.os, h.tape, h.output, h.size, fun k hk hkk => h.block k hk fun h3 => by have := hr k h3; omega⟩

/-- Midway in an element: block g holds cs' (cs but for the k cells from o on, which are us); only the blocks G changed. -/
structure Mid (G : List Nat) (g : Nat) (t : TypeId) (cs : Array Value) (o k : Nat) (w0 w : World) (us : List Value) : Prop where
  some_ : ∃ cs', Blk w g t cs' ∧ Upd cs cs' o k us
  out : Out G w0 w
section
variable {G : List Nat} {g : Nat} {t : TypeId} {cs : Array Value} {o k : Nat} {w0 w w' : World} {us : List Value}
theorem Mid.start (hb : Blk w g t cs) (hu : Upd cs cs o k us) (G : List Nat) : Mid G g t cs o k w w us := ⟨⟨cs, hb, hu⟩, Out.refl _ _⟩
theorem Mid.below (h : Mid G g t cs o k w0 w us) (hb : Below w.heap.size w w') : Mid G g t cs o k w0 w' us := by
  obtain ⟨⟨cs', h1, h2⟩, h3⟩ := h
  exact ⟨⟨cs', h1.below hb h1.lt, h2⟩, h3.below hb⟩
theorem Mid.set_ (h : Mid G g t cs o k w0 w us) (hg : g ∈ G) {i : Nat} (hi : i < k) (v : Value) : Mid G g t cs o k w0 (w.setCell ⟨g, o + i, none⟩ v) (us.set i v) := by
  obtain ⟨⟨cs', h1, h2⟩, h3⟩ := h
  exact ⟨⟨_, h1.set_ _ v, h2.step hi v⟩, h3.setCell hg v⟩
theorem Mid.call {G' : List Nat} (h : Mid G g t cs o k w0 w us) (ho : Out G' w w') (hs : ∀ b ∈ G', b ∈ G) (hg : g ∉ G') : Mid G g t cs o k w0 w' us := by
  obtain ⟨⟨cs', h1, h2⟩, h3⟩ := h
  exact ⟨⟨cs', (ho.block g h1.lt hg).trans h1, h2⟩, h3.trans ho hs⟩
theorem Mid.cell (h : Mid G g t cs o k w0 w us) {i : Nat} (hi : i < k) : w.cell? ⟨g, o + i, none⟩ = us[i]? := by
  obtain ⟨⟨cs', h1, h2⟩, h3⟩ := h
  rw [h1.cell]; exact h2.here i hi
theorem Mid.frozen (h : Mid G g t cs o k w0 w us) (i : Nat) : w.frozen? ⟨g, i, none⟩ = false := by
  obtain ⟨⟨cs', h1, h2⟩, h3⟩ := h
  exact h1.frozen i
end

section
variable {α : Type} {s : Sh α} {w w' : World} {F G : List Nat} {vs : List Value} {x : α}
theorem Out.app {w2 : World} (h : Out F w w') (h' : Out G w' w2) : Out (F ++ G) w w2 := (h.more fun _ hb => List.mem_append_left _ hb).trans h' fun _ hb => List.mem_append_right _ hb
end

end Go.Proofs.YtfibjcaidnofmaaGreatDoor

/- An operation of a site: its plain form, and how its value lies in memory. -/
namespace Go.Proofs.YtfibjcaidnofmaaGreatDoor
open Go.RowKit

structure Act where
  k : Int
  a : Int
  r : ByteArray
  l : ByteArray
  args : List ByteArray
  input : List ByteArray
  keep : List Int

/-- The value of an operation of a site, and where its lists lie. -/
def ActR (w : World) (lo hi : Nat) (v : Value) (x : Act) : Prop :=
  ∃ A c B d C e, v = .agg #[.int .i64 x.k, .int .i64 x.a, .string x.r, .string x.l, .slice A x.args.length c, .slice B x.input.length d, .slice C x.keep.length e] ∧
    StrR w lo hi A x.args.length x.args ∧ StrR w lo hi B x.input.length x.input ∧ IntR w lo hi C x.keep.length x.keep

theorem ActR.below {w w' : World} {lo hi B : Nat} {v : Value} {x : Act} (h : ActR w lo hi v x) (hb : Below B w w') (hB : hi ≤ B) : ActR w' lo hi v x := by
  obtain ⟨A, c, B', d, C, e, hv, h1, h2, h3⟩ := h
  exact ⟨A, c, B', d, C, e, hv, h1.below hb hB, h2.below hb hB, h3.below hb hB⟩


end Go.Proofs.YtfibjcaidnofmaaGreatDoor

/- Walks: toSiteAct, szSiteAct, eqSiteAct. -/
namespace Go.Proofs.YtfibjcaidnofmaaGreatDoor
open Go.RowKit
end Go.Proofs.YtfibjcaidnofmaaGreatDoor

/- Shapes of texts, numbers, truth values; the walks of the slices of texts and numbers in these words. -/
namespace Go.Proofs.YtfibjcaidnofmaaGreatDoor
open Go.RowKit

abbrev shS : Sh ByteArray := Sh.one Value.string ByteArray.empty markT ByteArray.size (fun _ => rfl)
section
variable {α : Type} {enc : α → Value} {d : α} {m : Nat → α} {co : α → Nat} {h1 : ∀ x, (enc x).oneCell' = true} {w : World} {lo hi : Nat} {A : Option Addr} {xs : List α} {t : TypeId} {n c : Nat} {F : List Nat}

theorem rowR_of_G (h : RowG (Sh.one enc d m co h1) w lo hi A xs) : RowR enc d w lo hi A xs.length xs :=
  ⟨rfl, fun hn => by
    obtain ⟨b, off, e, a1, a2, hc⟩ := h hn
    refine ⟨b, off, e, a1, a2, fun j hj => ?_⟩
    obtain ⟨us, h3, h4⟩ := hc j hj
    obtain rfl : us = [enc (xs.getD j d)] := h4
    have := h3 0 (by simp)
    simpa [Sh.one] using this⟩
theorem rowG_of_R (h : RowR enc d w lo hi A xs.length xs) : RowG (Sh.one enc d m co h1) w lo hi A xs := fun hn => by
  obtain ⟨b, off, e, a1, a2, hc⟩ := h.2 hn
  refine ⟨b, off, e, a1, a2, fun j hj => ⟨[enc (xs.getD j d)], fun i hi => ?_, rfl⟩⟩
  obtain rfl : i = 0 := by simpa using hi
  simp [Sh.one]
theorem rowR_of (h : (Sh.row t (Sh.one enc d m co h1)).R w lo hi [.slice A n c] xs) : RowR enc d w lo hi A n xs := by
  obtain ⟨A', c', e, h⟩ := h
  injection e with e _
  injection e with e1 e2 e3
  subst e1 e2
  exact rowR_of_G h
theorem of_rowR (h : RowR enc d w lo hi A n xs) : (Sh.row t (Sh.one enc d m co h1)).R w lo hi [.slice A n c] xs := by
  obtain rfl : xs.length = n := h.1
  exact ⟨A, c, rfl, rowG_of_R h⟩

theorem flat_one (xs : List α) (j : Nat) (hj : j < xs.length) : elemAt 1 (xs.map enc) j = [enc (xs.getD j d)] := by
  have h1 : (xs.map enc).length = xs.length * 1 := by simp
  refine elemAt_ext h1 hj rfl fun i hi => ?_
  obtain rfl : i = 0 := by omega
  simp [List.getD_eq_getElem?_getD, hj]
theorem flat_nil (n : Nat) : (List.range n).flatMap (fun _ => ([] : List Nat)) = [] := by
  induction n with
  | zero => rfl
  | succ n ih => rw [List.range_succ, List.flatMap_append, ih]; rfl
theorem ownsRow_base {base : Nat} {size : Nat} {v : Value} {ys : List Value} (h : w.ownsRow base t size v n ys) {base' : Nat} (hb : ∀ g, v.ownBlock = some g → base' ≤ g) : w.ownsRow base' t size v n ys := by
  refine ⟨h.1, ?_⟩
  rcases h.2 with h2 | ⟨g, cap, cur, e, _, r⟩
  · exact .inl h2
  · exact .inr ⟨g, cap, cur, e, hb g (by rw [e]; rfl), r⟩
theorem O_of_own {base : Nat} (h : w.ownsRow base t 1 (.slice A n c) n (xs.map enc)) : (Sh.row t (Sh.one enc d m co h1)).O w (Value.slice A n c).ownBlock.toList [.slice A n c] xs := by
  obtain rfl : xs.length = n := by have := h.1; simpa using this
  exact ⟨A, c, xs.map enc, fun _ => [], rfl, ownsRow_base h (fun _ _ => Nat.zero_le _), by rw [flat_nil, List.append_nil], fun j hj => ⟨rfl, flat_one xs j hj⟩⟩
theorem own_of_O (h : (Sh.row t (Sh.one enc d m co h1)).O w F [.slice A n c] xs) : w.ownsRow 0 t 1 (.slice A n c) n (xs.map enc) ∧ F = (Value.slice A n c).ownBlock.toList := by
  obtain ⟨A', c', cs, Fs, e, ho, eF, hel⟩ := h
  injection e with e _
  injection e with e1 e2 e3
  subst e1 e2 e3
  have hcs : cs = xs.map enc := by
    have hl : cs.length = xs.length := by have := ho.1; simpa [Sh.one] using this
    apply List.ext_getElem?
    intro j
    by_cases hj : j < xs.length
    · have h2 : elemAt 1 cs j = [enc (xs.getD j d)] := (hel j hj).2
      have h3 := elemAt_get (k := 1) (cs := cs) (j := j) (i := 0) (by omega)
      rw [h2] at h3
      simp only [Nat.mul_one, Nat.add_zero] at h3
      rw [← h3]
      simp [List.getD_eq_getElem?_getD, hj]
    · rw [List.getElem?_eq_none (by omega), List.getElem?_eq_none (by simp; omega)]
  subst hcs
  refine ⟨ho, ?_⟩
  rw [eF, flat_congr (Gs := fun _ => []) fun j hj => (hel j hj).1, flat_nil, List.append_nil]
theorem Own_of_own {base hi : Nat} (h : w.ownsRow base t 1 (.slice A n c) n (xs.map enc)) (hh : w.heap.size ≤ hi) : Own (Sh.row t (Sh.one enc d m co h1)) w base hi [.slice A n c] xs := by
  refine ⟨_, O_of_own h, ?_, fun b hb => ?_⟩
  · cases (Value.slice A n c).ownBlock <;> simp
  · have := h.lt b (by simpa using hb)
    omega
theorem Own_of_ownR {base hi : Nat} {v : Value} (h : OwnR enc w base t v xs) (hh : w.heap.size ≤ hi) : ∃ A c, v = .slice A xs.length c ∧ Own (Sh.row t (Sh.one enc d m co h1)) w base hi [.slice A xs.length c] xs := by
  obtain ⟨⟨A, c, rfl⟩, h2⟩ := h
  exact ⟨A, c, rfl, Own_of_own h2 hh⟩
end

end Go.Proofs.YtfibjcaidnofmaaGreatDoor

/- Shapes: stores behind what is owned; a row filled element by element from what a call gave. -/
namespace Go.Proofs.YtfibjcaidnofmaaGreatDoor
open Go.RowKit

section
variable {α : Type} {s : Sh α} {w W : World} {lo hi : Nat} {vs : List Value} {x : α}
theorem Own.setCell (h : Own s w lo hi vs x) {p : Addr} (hp : p.block < lo) (u : Value) : Own s (w.setCell p u) lo hi vs x := h.above ((Above.refl lo w).setCell hp u) (Nat.le_refl _)

theorem Fill.room {t : TypeId} {g : Nat} {cs : Array Value} {Fs : Nat → List Nat} {xs : List α} {j : Nat} (h : Fill s t w g cs Fs xs j) (hj : j < xs.length) : j * s.k + s.k ≤ cs.size := by
  have h1 : (j + 1) * s.k ≤ xs.length * s.k := Nat.mul_le_mul_right _ hj
  rw [Nat.add_mul] at h1
  rw [h.size]; omega
end

end Go.Proofs.YtfibjcaidnofmaaGreatDoor

/- Moves of a region that draws its order: an operation whose guard says no is passed over; one that yields is taken first. Over any program. -/
namespace Go.Proofs.YtfibjcaidnofmaaGreatDoor

section
variable {P : Program} {l : List Oper} {Q : Exit → Go.Act → World → Prop} {md : Region.Mode} {S : World → Prop}

theorem held_skip (i d : Nat) {oi : Oper} {fuel : Nat} {listed : Array Bool} {a : Go.Act} {w : World} (hi : l[i]? = some oi) (hs : Region.noSelect l.toArray = true) (hf : Region.free md l.toArray listed i = true)
    (hr : (Region.ready md l.toArray listed).contains i = true) (hd : oi.dst = some d) (hQ : ∀ c (a : Go.Act) v w, Q (.panic c) (a.put (some d) v) w → Q (.panic c) a w)
    (hw : Region.wanted oi (yielded l.toArray a.tmps) = false) (hS : S w) (h : wpAnyH P md l.toArray Q S fuel (listed.setIfInBounds i true) (a.put (some d) undef) w) : wpAnyH P md l.toArray Q S (fuel + 1) listed a w :=
  wpAnyH_take (i := i) (oi := oi) (v := undef) (by simpa using hi) hs hf hr (fun c a w h => hQ c a undef w (hd ▸ h)) (.inr ⟨hw, rfl⟩) hS (hd ▸ h)

theorem held_take (i d : Nat) (v : Value) {oi : Oper} {fuel : Nat} {listed : Array Bool} {a : Go.Act} {w : World} (hi : l[i]? = some oi) (hs : Region.noSelect l.toArray = true) (hf : Region.free md l.toArray listed i = true)
    (hr : (Region.ready md l.toArray listed).contains i = true) (hd : oi.dst = some d) (hQ : ∀ c (a : Go.Act) v w, Q (.panic c) (a.put (some d) v) w → Q (.panic c) a w)
    (hw : Region.wanted oi (yielded l.toArray a.tmps) = true) (hy : ∀ w, S w → (execOp a.eval oi).run P w = .ok (.value v) w) (hS : S w)
    (h : wpAnyH P md l.toArray Q S fuel (listed.setIfInBounds i true) (a.put (some d) v) w) : wpAnyH P md l.toArray Q S (fuel + 1) listed a w :=
  wpAnyH_take (i := i) (oi := oi) (v := v) (by simpa using hi) hs hf hr (fun c a w h => hQ c a v w (hd ▸ h)) (.inl ⟨hw, hy⟩) hS (hd ▸ h)

end

end Go.Proofs.YtfibjcaidnofmaaGreatDoor

/- strings.Builder: WriteByte, WriteString, String, at builders of the call's own. -/
namespace Go.Proofs.YtfibjcaidnofmaaGreatDoor
open Go.RowKit

theorem bld_below {T e : TypeId} {B b : Nat} {bs : List Value} {w w' : World} (h : Lib.IsBuilder T e B b bs w) (hb : Below w.heap.size w w') : Lib.IsBuilder T e B b bs w' := by
  have one : ∀ p, Lib.BuilderAt T e B b p bs w → Lib.BuilderAt T e B b p bs w' := by
    intro p hp
    have hlt := hp.lt
    obtain ⟨h1, v, h2, h3, h4⟩ := hp
    exact ⟨h1, v, (hb.block b hlt).trans h2, own_below h3 hb, h4⟩
  rcases h with h | h
  · exact .inl (one _ h)
  · exact .inr (one _ h)

/-- A builder of the call's own in block b that holds the bytes l; from B on. -/
abbrev Bld (w : World) (b : Nat) (l : List UInt8) : Prop := Lib.IsBuilder 82 5 b b (Lib.byteCells l) w
theorem bld_new (w : World) : Bld (w.alloc (.cells #[.pointer none, .slice none 0 0] 82)) w.heap.size [] := Lib.fresh_isBuilder _ _ w

theorem bldString (b : Nat) (bs : List UInt8) (s : ByteArray) (w : World) (h : Bld w b bs) (hlen : bs.length + s.size ≤ 140737488355328) (hBw : b ≤ w.heap.size) :
    Calls Tryz.prog 58 #[.pointer (some ⟨b, 0, none⟩), .string s] w fun e w' => e = .returned (.tuple #[.int .i64 s.size, .nilIface]) ∧ Bld w' b (bs ++ s.data.toList) ∧ Below b w w' := by
  have H : Calls Tryz.prog 58 #[.pointer (some ⟨b, 0, none⟩), .string s] w fun e w' => e = .returned (.tuple #[.int .i64 s.size, .nilIface]) ∧ (Lib.BuilderAt 82 5 b b (.pointer (some ⟨b, 0, none⟩)) (Lib.byteCells bs ++ Lib.strCells s) w' ∧ Below b w w') :=
    Any.Builder_WriteString { Tryz.lays156 with } Tryz.Builder_Extra_156 b b (Lib.byteCells bs) s w h (by rw [Lib.byteCells_length]; exact hlen) hBw
  refine H.mono ?_
  rintro e w' ⟨h1, h2, h3⟩
  refine ⟨h1, .inr ?_, h3⟩
  rw [Lib.byteCells_append, ← Lib.strCells_eq]
  exact h2

def renB : Go.Shelf.Ren := ⟨fun n => match n with
  | 167 => 147
  | n => Tryz.lays156_ren.f n, Tryz.lays156_ren.t, Tryz.lays156_ren.g⟩
theorem laysB : Lays.n167 Tryz.prog renB := {
  mixed := Tryz.lays156.mixed
  f167 := Tryz.func147.trans (congrArg some (by kernel_rfl))
  f240 := Tryz.func117.trans (congrArg some (by kernel_rfl))
  f276 := Tryz.func163.trans (congrArg some (by kernel_rfl))
  t0 := Tryz.lays156.t0
  a0 := Tryz.lays156.a0
  z0 := Tryz.lays156.z0
  v0 := Tryz.lays156.v0
  t4 := Tryz.lays156.t4
  a4 := Tryz.lays156.a4
  z4 := Tryz.lays156.z4
  v4 := Tryz.lays156.v4
  t5 := Tryz.underlying5
  a5 := Tryz.isAgg5
  z5 := Tryz.sizeOf5
  v5 := Tryz.zeroValue5
  t9 := Tryz.lays156.t9
  a9 := Tryz.lays156.a9
  z9 := Tryz.lays156.z9
  v9 := Tryz.lays156.v9
  t20 := Tryz.lays156.t20
  a20 := Tryz.lays156.a20
  z20 := Tryz.lays156.z20
  v20 := Tryz.lays156.v20
  t37 := Tryz.lays156.t37
  a37 := Tryz.lays156.a37
  z37 := Tryz.lays156.z37
  v37 := Tryz.lays156.v37
  t70 := Tryz.lays156.t70
  a70 := Tryz.lays156.a70
  z70 := Tryz.lays156.z70
  v70 := Tryz.lays156.v70
  t72 := Tryz.lays156.t72
  a72 := Tryz.lays156.a72
  z72 := Tryz.lays156.z72
  v72 := Tryz.lays156.v72
  t75 := Tryz.lays156.t75
  a75 := Tryz.lays156.a75
  z75 := Tryz.lays156.z75
  v75 := Tryz.lays156.v75
  t164 := Tryz.lays156.t164
  a164 := Tryz.lays156.a164
  z164 := Tryz.lays156.z164
  v164 := Tryz.lays156.v164 }
set_option maxRecDepth 100000 in
theorem bldByte (b : Nat) (bs : List UInt8) (c : UInt8) (w : World) (h : Bld w b bs) (hlen : bs.length + 1 ≤ 140737488355328) (hBw : b ≤ w.heap.size) :
    Calls Tryz.prog 147 #[.pointer (some ⟨b, 0, none⟩), .int .u8 (c.toNat : Int)] w fun e w' => e = .returned .nilIface ∧ Bld w' b (bs ++ [c]) ∧ Below b w w' := by
  have H : Calls Tryz.prog 147 #[.pointer (some ⟨b, 0, none⟩), .int .u8 (c.toNat : Int)] w fun e w' => e = .returned .nilIface ∧ (Lib.BuilderAt 82 5 b b (.pointer (some ⟨b, 0, none⟩)) (Lib.byteCells bs ++ [.int .u8 (c.toNat : Int)]) w' ∧ Below b w w') :=
    Any.Builder_WriteByte laysB { Tryz.Builder_Extra_156 with } b b (Lib.byteCells bs) (c.toNat : Int) w h (by rw [Lib.byteCells_length]; exact hlen) hBw
  refine H.mono ?_
  rintro e w' ⟨h1, h2, h3⟩
  refine ⟨h1, .inr ?_, h3⟩
  rw [Lib.byteCells_append]
  exact h2
set_option maxRecDepth 100000 in
theorem bldText (b : Nat) (bs : List UInt8) (w : World) (h : Bld w b bs) (hBw : b ≤ w.heap.size) :
    Calls Tryz.prog 60 #[.pointer (some ⟨b, 0, none⟩)] w fun e w' => e = .returned (.string ⟨bs.toArray⟩) ∧ Below b w w' := Tryz.Builder_String_any b b bs w h hBw
end Go.Proofs.YtfibjcaidnofmaaGreatDoor
