/- Shapes: rows element by element; rows that are filled, that grow, that are marked; over any program. -/
import Derived.Test.YtfibjcaidnofmaaGreatDoorJoinITAa
import Derived.Test.YtfibjcaidnofmaaGreatDoorJoinITAf
namespace Go.Proofs.YtfibjcaidnofmaaGreatDoor
open Go.RowKit

theorem flat_mem {n : Nat} {Fs : Nat → List Nat} {j b : Nat} (hj : j < n) (hb : b ∈ Fs j) : b ∈ (List.range n).flatMap Fs := List.mem_flatMap.2 ⟨j, List.mem_range.2 hj, hb⟩
theorem flat_nodup {n : Nat} {Fs : Nat → List Nat} (h : ((List.range n).flatMap Fs).Nodup) : (∀ j, j < n → (Fs j).Nodup) ∧ ∀ i j, i < n → j < n → i ≠ j → ∀ b ∈ Fs i, b ∉ Fs j := by
  induction n with
  | zero => exact ⟨fun j hj => absurd hj (by omega), fun i j hi => absurd hi (by omega)⟩
  | succ n ih =>
    rw [List.range_succ, List.flatMap_append] at h
    obtain ⟨h1, h2, h3⟩ := List.nodup_append.1 h
    obtain ⟨a1, a2⟩ := ih h1
    have e1 : [n].flatMap Fs = Fs n := by simp
    rw [e1] at h2 h3
    refine ⟨fun j hj => ?_, fun i j hi hj hij b hb hb' => ?_⟩
    · by_cases e : j = n
      · rw [e]; exact h2
      · exact a1 j (by omega)
    · by_cases e : j = n
      · subst e
        exact h3 b (flat_mem (by omega) hb) b hb' rfl
      · by_cases e2 : i = n
        · subst e2
          exact h3 b (flat_mem (by omega) hb') b hb rfl
        · exact a2 i j (by omega) (by omega) hij b hb hb'
theorem flat_nodup_succ {n : Nat} {Fs : Nat → List Nat} (h1 : ((List.range n).flatMap Fs).Nodup) (h2 : (Fs n).Nodup) (h3 : ∀ i, i < n → ∀ b ∈ Fs i, b ∉ Fs n) : ((List.range (n + 1)).flatMap Fs).Nodup := by
  rw [List.range_succ, List.flatMap_append]
  have e1 : [n].flatMap Fs = Fs n := by simp
  rw [e1]
  refine List.nodup_append.2 ⟨h1, h2, fun b hb c hc e => ?_⟩
  obtain ⟨i, hi, hb⟩ := List.mem_flatMap.1 hb
  exact h3 i (List.mem_range.1 hi) b hb (by rw [e]; exact hc)
theorem flat_congr {n : Nat} {Fs Gs : Nat → List Nat} (h : ∀ j, j < n → Fs j = Gs j) : (List.range n).flatMap Fs = (List.range n).flatMap Gs := by
  induction n with
  | zero => rfl
  | succ n ih => rw [List.range_succ, List.flatMap_append, List.flatMap_append, ih fun j hj => h j (by omega)]; simp [h n (by omega)]

theorem getD_set' {α : Type} (d : α) (xs : List α) (j i : Nat) (y : α) (hj : j < xs.length) : (xs.set j y).getD i d = if i = j then y else xs.getD i d := by
  rw [List.getD_eq_getElem?_getD, List.getD_eq_getElem?_getD]
  by_cases e : i = j
  · subst e; rw [List.getElem?_set_self hj, if_pos rfl]; rfl
  · rw [List.getElem?_set_ne (by omega), if_neg e]

theorem getD_in {α : Type} {fs : List α} {d : α} {k : Nat} (h : k < fs.length) : fs.getD k d ∈ fs := by
  rw [List.getD_eq_getElem?_getD, List.getElem?_eq_getElem h]
  exact List.getElem_mem _
theorem heap_alloc_size1 (w : World) (o : Obj) : (w.alloc o).heap.size = w.heap.size + 1 := by simp

section
variable {α : Type} {s : Sh α} {w : World} {t : TypeId} {F : List Nat} {vs : List Value} {xs : List α}

/-- Element j of a row that owns what hangs on it; and the row with another element in its place. -/
theorem O_row_at (h : (Sh.row t s).O w F vs xs) (hF : F.Nodup) {j : Nat} (hj : j < xs.length) :
    ∃ g c cur F1 us, vs = [.slice (some ⟨g, 0, none⟩) xs.length c] ∧ Blk w g t cur ∧ g ∈ F ∧ (∀ b ∈ F1, b ∈ F) ∧ g ∉ F1 ∧ F1.Nodup ∧ s.O w F1 us (xs.getD j s.d) ∧ Upd cur cur (j * s.k) s.k us ∧
      ∀ (w' : World) (cur' : Array Value) (us' : List Value) (x' : α), Blk w' g t cur' → Upd cur cur' (j * s.k) s.k us' → s.O w' F1 us' x' → (∀ b ∈ F, b ≠ g → b ∉ F1 → w'.heap[b]? = w.heap[b]?) → (Sh.row t s).O w' F vs (xs.set j x') := by
  obtain ⟨A, c, cs, Fs, rfl, ho, rfl, hel⟩ := h
  rcases ho.2 with ⟨_, h0⟩ | ⟨g, cap, cur, h1, _, h3, h4, h5, h6, h7⟩
  · omega
  have hA : A = some ⟨g, 0, none⟩ := by injection h1
  have hc : c = cap := by injection h1
  subst hA hc
  have hob : (Value.slice (some ⟨g, 0, none⟩) xs.length c).ownBlock.toList = [g] := rfl
  rw [hob] at hF ⊢
  obtain ⟨_, hN, hD⟩ := List.nodup_append.1 hF
  obtain ⟨n1, n2⟩ := flat_nodup hN
  have hgj : ∀ i, i < xs.length → g ∉ Fs i := fun i hi hb => hD g (by simp) g (flat_mem hi hb) rfl
  have hlen : cs.length = xs.length * s.k := ho.1
  have hkc : xs.length * s.k ≤ c * s.k := Nat.mul_le_mul_right _ h4
  have hjk : j * s.k + s.k ≤ xs.length * s.k := by
    have h1 : (j + 1) * s.k ≤ xs.length * s.k := Nat.mul_le_mul_right _ hj
    rw [Nat.add_mul] at h1; omega
  have hcs : ∀ p, p < xs.length * s.k → cs[p]? = cur[p]? := fun p hp => by rw [← h7, List.getElem?_take, if_pos hp, Array.getElem?_toList]
  refine ⟨g, c, cur, Fs j, elemAt s.k cs j, rfl, h3, by simp, fun b hb => List.mem_append_right _ (flat_mem hj hb), hgj j hj, n1 j hj, hel j hj, ?_, ?_⟩
  · refine Upd.start (elemAt_len hlen hj) (by omega) fun i hi => ?_
    rw [elemAt_get hi, hcs _ (by omega)]
  · intro w' cur' us' x' hb hu ho' hk
    have hsz : cur'.size = c * s.k := by rw [hu.size, h6]
    have hl : (xs.set j x').length = xs.length := List.length_set
    refine ⟨some ⟨g, 0, none⟩, c, cur'.toList.take (xs.length * s.k), Fs, by rw [hl], ?_, by rw [hl]; rfl, fun i hi => ?_⟩
    · rw [hl]
      refine ⟨by simp; omega, .inr ⟨g, c, cur', rfl, by omega, hb, h4, h5, hsz, rfl⟩⟩
    · rw [hl] at hi
      rw [getD_set' _ _ _ _ _ hj]
      have hl2 : (cur'.toList.take (xs.length * s.k)).length = xs.length * s.k := by simp; omega
      by_cases e : i = j
      · subst e
        rw [if_pos rfl, elemAt_ext hl2 hi hu.len fun q hq => ?_]
        · exact ho'
        · rw [List.getElem?_take, if_pos (by omega), Array.getElem?_toList]
          exact hu.here q hq
      · rw [if_neg e, elemAt_ext hl2 hi (elemAt_len hlen hi) fun q hq => ?_]
        · exact s.O_keep (hel i hi) fun b hb' => hk b (List.mem_append_right _ (flat_mem hi hb')) (fun e2 => hgj i hi (by rw [← e2]; exact hb')) (n2 i j hi hj e b hb')
        · have hlt := mul_lt hi hq
          rw [List.getElem?_take, if_pos hlt, Array.getElem?_toList, elemAt_get hq, hcs _ hlt]
          refine hu.far _ ?_
          rcases Nat.lt_or_ge i j with h8 | h8
          · left
            have h9 : (i + 1) * s.k ≤ j * s.k := Nat.mul_le_mul_right _ h8
            rw [Nat.add_mul] at h9; omega
          · right
            have h9 : (j + 1) * s.k ≤ i * s.k := Nat.mul_le_mul_right _ (by omega)
            rw [Nat.add_mul] at h9; omega
end

/-! ### A row that was made, filled from its head on -/

structure Fill {α : Type} (s : Sh α) (t : TypeId) (w : World) (g : Nat) (cs : Array Value) (Fs : Nat → List Nat) (xs : List α) (j : Nat) : Prop where
  blk : Blk w g t cs
  size : cs.size = xs.length * s.k
  own : ∀ i, i < j → s.O w (Fs i) (elemAt s.k cs.toList i) (xs.getD i s.d)
  behind : ∀ i, i < j → ∀ b ∈ Fs i, g < b
  nodup : ((List.range j).flatMap Fs).Nodup

section
variable {α : Type} {s : Sh α} {w : World} {t : TypeId} {xs : List α} {g : Nat} {cs : Array Value} {Fs : Nat → List Nat}
theorem Fill.start (h : Blk w g t cs) (hs : cs.size = xs.length * s.k) : Fill s t w g cs (fun _ => []) xs 0 :=
  ⟨h, hs, fun i hi => absurd hi (by omega), fun i hi => absurd hi (by omega), by simp⟩
theorem Fill.below {w' : World} {j : Nat} (h : Fill s t w g cs Fs xs j) (hb : Below w.heap.size w w') : Fill s t w' g cs Fs xs j :=
  ⟨h.blk.below hb h.blk.lt, h.size, fun i hi => s.O_keep (h.own i hi) fun b hb' => hb.block b (s.O_lt (h.own i hi) b hb'), h.behind, h.nodup⟩
/-- One element more: it owns what was laid since, and its cells were written; nothing else changed. -/
theorem Fill.add {w2 : World} {j : Nat} {us : List Value} {cs' : Array Value} {lo hi : Nat} (h : Fill s t w g cs Fs xs j) (hj : j < xs.length) (hlo : w.heap.size ≤ lo) (ho : Own s w2 lo hi us (xs.getD j s.d))
    (hb : Blk w2 g t cs') (hu : Upd cs cs' (j * s.k) s.k us) (hk : ∀ b, b < w.heap.size → b ≠ g → w2.heap[b]? = w.heap[b]?) :
    ∃ Fs', Fill s t w2 g cs' Fs' xs (j + 1) := by
  obtain ⟨F, o1, o2, o3⟩ := ho
  have hg := h.blk.lt
  have hjk : j * s.k + s.k ≤ xs.length * s.k := by
    have h1 : (j + 1) * s.k ≤ xs.length * s.k := Nat.mul_le_mul_right _ hj
    rw [Nat.add_mul] at h1; omega
  have hsz : cs'.size = xs.length * s.k := by rw [hu.size, h.size]
  have hl : cs'.toList.length = xs.length * s.k := by simp [hsz]
  have hl0 : cs.toList.length = xs.length * s.k := by simp [h.size]
  have old : ∀ i, i < j → (fun i => if i = j then F else Fs i) i = Fs i := fun i hi => by show (if i = j then F else Fs i) = Fs i; rw [if_neg (by omega)]
  refine ⟨fun i => if i = j then F else Fs i, hb, hsz, fun i hi => ?_, fun i hi b hb' => ?_, ?_⟩
  · by_cases e : i = j
    · subst e
      simp only [if_true]
      rw [elemAt_ext hl hj hu.len fun q hq => by rw [Array.getElem?_toList]; exact hu.here q hq]
      exact o1
    · simp only [if_neg e]
      have hi' : i < j := by omega
      rw [elemAt_ext (us := elemAt s.k cs.toList i) hl (by omega : i < xs.length) (elemAt_len hl0 (by omega)) fun q hq => ?_]
      · exact s.O_keep (h.own i hi') fun b hb' => hk b (s.O_lt (h.own i hi') b hb') (by have := h.behind i hi' b hb'; omega)
      · rw [Array.getElem?_toList, elemAt_get hq, Array.getElem?_toList]
        refine hu.far _ (.inl ?_)
        have h9 : (i + 1) * s.k ≤ j * s.k := Nat.mul_le_mul_right _ hi'
        rw [Nat.add_mul] at h9; omega
  · by_cases e : i = j
    · subst e
      simp only [if_true] at hb'
      have := o3 b hb'; omega
    · simp only [if_neg e] at hb'
      exact h.behind i (by omega) b hb'
  · refine flat_nodup_succ ?_ ?_ fun i hi b hb' hb2 => ?_
    · rw [flat_congr old]; exact h.nodup
    · simp only [if_true]; exact o2
    · simp only [if_true] at hb2
      rw [if_neg (by omega)] at hb'
      have := s.O_lt (h.own i hi) b hb'
      have := o3 b hb2; omega
theorem Fill.done (h : Fill s t w g cs Fs xs xs.length) (hm : xs.length ≤ maxLen) : Own (Sh.row t s) w g w.heap.size [.slice (some ⟨g, 0, none⟩) xs.length xs.length] xs := by
  have hg := h.blk.lt
  refine ⟨g :: (List.range xs.length).flatMap Fs, ⟨some ⟨g, 0, none⟩, xs.length, cs.toList, Fs, rfl, ⟨by simp [h.size], .inr ⟨g, xs.length, cs, rfl, by omega, h.blk, Nat.le_refl _, hm, h.size, ?_⟩⟩, rfl, h.own⟩, ?_, fun b hb => ?_⟩
  · rw [List.take_of_length_le (by simp [h.size])]
  · refine List.nodup_cons.2 ⟨fun hb => ?_, h.nodup⟩
    obtain ⟨i, hi, hb⟩ := List.mem_flatMap.1 hb
    have := h.behind i (List.mem_range.1 hi) g hb; omega
  · rcases List.mem_cons.1 hb with rfl | hb
    · exact ⟨Nat.le_refl _, hg⟩
    · obtain ⟨i, hi, hb⟩ := List.mem_flatMap.1 hb
      have h1 := h.behind i (List.mem_range.1 hi) b hb
      have h2 := s.O_lt (h.own i (List.mem_range.1 hi)) b hb
      omega
end

/-! ### Marks, element by element -/

section
variable {α : Type} (s : Sh α)
def markTo (k j : Nat) (xs : List α) : List α := mkAll s k (xs.take j) ++ xs.drop j
def cntTo (j : Nat) (xs : List α) : Nat := cntAll s (xs.take j)
theorem markTo_len (k j : Nat) (xs : List α) : (markTo s k j xs).length = xs.length := by
  simp only [markTo, List.length_append, mkAll_len, List.length_take, List.length_drop]; omega
theorem markTo_zero (k : Nat) (xs : List α) : markTo s k 0 xs = xs := by simp [markTo, mkAll]
theorem markTo_all (k : Nat) (xs : List α) : markTo s k xs.length xs = mkAll s k xs := by simp [markTo]
theorem cntTo_zero (xs : List α) : cntTo s 0 xs = 0 := by simp [cntTo, cntAll]
theorem cntTo_all (xs : List α) : cntTo s xs.length xs = cntAll s xs := by simp [cntTo]
theorem mkAll_append (k : Nat) (xs ys : List α) : mkAll s k (xs ++ ys) = mkAll s k xs ++ mkAll s (k + cntAll s xs) ys := by
  induction xs generalizing k with
  | nil => simp [mkAll, cntAll]
  | cons x xs ih =>
    simp only [List.cons_append, mkAll, ih]
    rw [show k + s.cnt x + cntAll s xs = k + cntAll s (x :: xs) by simp [cntAll]; omega]
theorem take_succ_getD {xs : List α} {j : Nat} (hj : j < xs.length) : xs.take (j + 1) = xs.take j ++ [xs.getD j s.d] := by
  rw [List.take_succ_eq_append_getElem hj, List.getD_eq_getElem?_getD, List.getElem?_eq_getElem hj]; rfl
theorem cntTo_succ {j : Nat} {xs : List α} (hj : j < xs.length) : cntTo s (j + 1) xs = cntTo s j xs + s.cnt (xs.getD j s.d) := by
  unfold cntTo
  rw [take_succ_getD s hj]
  simp [cntAll]
theorem cntTo_le {j : Nat} {xs : List α} : cntTo s j xs ≤ cntAll s xs := by
  have h : cntAll s xs = cntAll s (xs.take j) + cntAll s (xs.drop j) := by
    unfold cntAll
    rw [← List.sum_append, ← List.map_append, List.take_append_drop]
  unfold cntTo
  omega
theorem markTo_getD (k : Nat) {j : Nat} {xs : List α} (hj : j < xs.length) : (markTo s k j xs).getD j s.d = xs.getD j s.d := by
  have h1 : (mkAll s k (xs.take j)).length = j := by rw [mkAll_len, List.length_take]; omega
  rw [List.getD_eq_getElem?_getD, markTo, List.getElem?_append_right (by omega), h1, Nat.sub_self, List.getElem?_drop, Nat.add_zero, ← List.getD_eq_getElem?_getD]
theorem markTo_succ (k : Nat) {j : Nat} {xs : List α} (hj : j < xs.length) : (markTo s k j xs).set j (s.mark (k + cntTo s j xs) (xs.getD j s.d)) = markTo s k (j + 1) xs := by
  have h1 : (mkAll s k (xs.take j)).length = j := by rw [mkAll_len, List.length_take]; omega
  unfold markTo
  rw [take_succ_getD s hj, mkAll_append, List.set_append_right _ _ (by omega), h1, Nat.sub_self, List.drop_eq_getElem_cons hj, List.set_cons_zero]
  simp [mkAll, cntTo]
theorem mkAll_getD (k : Nat) {j : Nat} {xs : List α} (hj : j < xs.length) : (mkAll s k xs).getD j s.d = s.mark (k + cntTo s j xs) (xs.getD j s.d) := by
  have h1 : (mkAll s k (xs.take j)).length = j := by rw [mkAll_len, List.length_take]; omega
  conv => lhs; rw [← List.take_append_drop j xs, mkAll_append]
  rw [List.getD_eq_getElem?_getD, List.getElem?_append_right (by omega), h1, Nat.sub_self, List.drop_eq_getElem_cons hj]
  simp [mkAll, cntTo, List.getD_eq_getElem?_getD, List.getElem?_eq_getElem hj]
end

/-! ### What changes but the blocks G -/

structure Out (G : List Nat) (w w' : World) : Prop where
  os : w'.os = w.os
  tape : w'.tape = w.tape
  output : w'.output = w.output
  size : w.heap.size ≤ w'.heap.size
  block : ∀ b, b < w.heap.size → b ∉ G → w'.heap[b]? = w.heap[b]?
theorem Out.refl (G : List Nat) (w : World) : Out G w w := ⟨rfl, rfl, rfl, Nat.le_refl _, fun _ _ _ => rfl⟩
theorem Out.below {G : List Nat} {w w1 w2 : World} (h : Out G w w1) (hb : Below w1.heap.size w1 w2) : Out G w w2 :=
  ⟨hb.os.trans h.os, hb.tape.trans h.tape, hb.output.trans h.output, Nat.le_trans h.size hb.size, fun b h1 h2 => (hb.block b (Nat.lt_of_lt_of_le h1 h.size)).trans (h.block b h1 h2)⟩
theorem Out.trans {G G' : List Nat} {w w1 w2 : World} (h : Out G w w1) (h' : Out G' w1 w2) (hs : ∀ b ∈ G', b ∈ G) : Out G w w2 :=
  ⟨h'.os.trans h.os, h'.tape.trans h.tape, h'.output.trans h.output, Nat.le_trans h.size h'.size, fun b h1 h2 => (h'.block b (Nat.lt_of_lt_of_le h1 h.size) (fun h3 => h2 (hs b h3))).trans (h.block b h1 h2)⟩
theorem Out.more {G G' : List Nat} {w w1 : World} (h : Out G w w1) (hs : ∀ b ∈ G, b ∈ G') : Out G' w w1 := ⟨h.os, h.tape, h.output, h.size, fun b h1 h2 => h.block b h1 fun h3 => h2 (hs b h3)⟩
theorem Out.setCell {G : List Nat} {w w1 : World} (h : Out G w w1) {p : Addr} (hp : p.block ∈ G) (u : Value) : Out G w (w1.setCell p u) :=
  ⟨h.os, h.tape, h.output, by simpa using h.size, fun b h1 h2 => (Below.heap_setCell w1 p u b (fun e => h2 (by rw [e]; exact hp))).trans (h.block b h1 h2)⟩
theorem Out.within {G : List Nat} {w w1 : World} {lo hi : Nat} (h : Out G w w1) (hr : ∀ b ∈ G, lo ≤ b ∧ b < hi) : Within lo hi w w1 :=
  ⟨h.os, h.tape, h.output, h.size, fun k hk hkk => h.block k hk fun h3 => by have := hr k h3; omega⟩

/-- Midway in an element: block g holds cs' (cs but for the k cells from o on, which are us); only the blocks G changed. -/
structure Mid (G : List Nat) (g : Nat) (t : TypeId) (cs : Array Value) (o k : Nat) (w0 w : World) (us : List Value) : Prop where
  some_ : ∃ cs', Blk w g t cs' ∧ Upd cs cs' o k us
  out : Out G w0 w
section
variable {G : List Nat} {g : Nat} {t : TypeId} {cs : Array Value} {o k : Nat} {w0 w w' : World} {us : List Value}
theorem Mid.start (hb : Blk w g t cs) (hu : Upd cs cs o k us) (G : List Nat) : Mid G g t cs o k w w us := ⟨⟨cs, hb, hu⟩, Out.refl _ _⟩
theorem Mid.below (h : Mid G g t cs o k w0 w us) (hb : Below w.heap.size w w') : Mid G g t cs o k w0 w' us := by
  obtain ⟨⟨cs', h1, h2⟩, h3⟩ := h
  exact ⟨⟨cs', h1.below hb h1.lt, h2⟩, h3.below hb⟩
theorem Mid.set_ (h : Mid G g t cs o k w0 w us) (hg : g ∈ G) {i : Nat} (hi : i < k) (v : Value) : Mid G g t cs o k w0 (w.setCell ⟨g, o + i, none⟩ v) (us.set i v) := by
  obtain ⟨⟨cs', h1, h2⟩, h3⟩ := h
  exact ⟨⟨_, h1.set_ _ v, h2.step hi v⟩, h3.setCell hg v⟩
theorem Mid.set0 (h : Mid G g t cs o k w0 w us) (hg : g ∈ G) (hi : 0 < k) (v : Value) : Mid G g t cs o k w0 (w.setCell ⟨g, o, none⟩ v) (us.set 0 v) := h.set_ hg hi v
theorem Mid.call {G' : List Nat} (h : Mid G g t cs o k w0 w us) (ho : Out G' w w') (hs : ∀ b ∈ G', b ∈ G) (hg : g ∉ G') : Mid G g t cs o k w0 w' us := by
  obtain ⟨⟨cs', h1, h2⟩, h3⟩ := h
  exact ⟨⟨cs', (ho.block g h1.lt hg).trans h1, h2⟩, h3.trans ho hs⟩
theorem Mid.cell (h : Mid G g t cs o k w0 w us) {i : Nat} (hi : i < k) : w.cell? ⟨g, o + i, none⟩ = us[i]? := by
  obtain ⟨⟨cs', h1, h2⟩, h3⟩ := h
  rw [h1.cell]; exact h2.here i hi
theorem Mid.cell0 (h : Mid G g t cs o k w0 w us) (hi : 0 < k) : w.cell? ⟨g, o, none⟩ = us[0]? := h.cell hi
theorem Mid.frozen (h : Mid G g t cs o k w0 w us) (i : Nat) : w.frozen? ⟨g, i, none⟩ = false := by
  obtain ⟨⟨cs', h1, h2⟩, h3⟩ := h
  exact h1.frozen i
end

section
variable {α : Type} {s : Sh α} {w w' : World} {F G : List Nat} {vs : List Value} {x : α}
theorem O_below (h : s.O w F vs x) (hb : Below w.heap.size w w') : s.O w' F vs x := s.O_keep h fun b hb' => hb.block b (s.O_lt h b hb')
theorem O_set (h : s.O w F vs x) {g i : Nat} (hg : g ∉ F) (u : Value) : s.O (w.setCell ⟨g, i, none⟩ u) F vs x :=
  s.O_keep h fun b hb => Below.heap_setCell w ⟨g, i, none⟩ u b (fun e => hg (by rw [← show b = g from e]; exact hb))
theorem O_len {t : TypeId} {A : Option Addr} {n c : Nat} {xs : List α} (h : (Sh.row t s).O w F [.slice A n c] xs) : xs.length = n ∧ n ≤ maxLen := by
  obtain ⟨A', c', cs, Fs, e, ho, _⟩ := h
  injection e with e _
  injection e with e1 e2 e3
  subst e1 e2 e3
  refine ⟨rfl, ?_⟩
  rcases ho.2 with ⟨_, h0⟩ | ⟨g, cap, cur, _, _, _, h4, h5, _⟩
  · omega
  · omega
/-- The next element to be marked. -/
theorem mark_at {t : TypeId} {A : Option Addr} {n c k j : Nat} {xs : List α} (h : (Sh.row t s).O w F [.slice A n c] (markTo s k j xs)) (hn : xs.length = n) (hF : F.Nodup) (hj : j < n) :
    ∃ g cur F1 us, A = some ⟨g, 0, none⟩ ∧ g ∉ F1 ∧ F1.Nodup ∧ s.O w F1 us (xs.getD j s.d) ∧ Mid (g :: F1) g t cur (j * s.k) s.k w w us ∧
      ∀ (W : World) (us' : List Value), Mid (g :: F1) g t cur (j * s.k) s.k w W us' → s.O W F1 us' (s.mark (k + cntTo s j xs) (xs.getD j s.d)) → (Sh.row t s).O W F [.slice A n c] (markTo s k (j + 1) xs) ∧ Out F w W := by
  subst hn
  obtain ⟨g, c', cur, F1, us, e, hb, hg, hs, hg1, hN, ho, hu, hcl⟩ := O_row_at h hF (j := j) (by rw [markTo_len]; exact hj)
  injection e with e _
  injection e with e1 e2 e3
  subst e1
  rw [markTo_getD s k hj] at ho
  refine ⟨g, cur, F1, us, rfl, hg1, hN, ho, Mid.start hb hu _, fun W us' hm ho' => ⟨?_, hm.out.more fun b hb' => ?_⟩⟩
  · obtain ⟨⟨cs', h1, h2⟩, h3⟩ := hm
    have := hcl W cs' us' _ h1 h2 ho' fun b hb' hbg hb1 => h3.block b ((Sh.row t s).O_lt h b hb') (by
      intro hb2
      rcases List.mem_cons.1 hb2 with hb2 | hb2
      · exact hbg hb2
      · exact hb1 hb2)
    rw [markTo_succ s k hj] at this
    exact this
  · rcases List.mem_cons.1 hb' with rfl | hb'
    · exact hg
    · exact hs b hb'
theorem cnt_room {k j : Nat} {xs : List α} (hj : j < xs.length) {B : Nat} (h : k + cntAll s xs ≤ B) : k + cntTo s j xs + s.cnt (xs.getD j s.d) ≤ B := by
  have h1 := cntTo_succ s hj
  have h2 := cntTo_le s (j := j + 1) (xs := xs)
  omega
end

end Go.Proofs.YtfibjcaidnofmaaGreatDoor

