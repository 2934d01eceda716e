/- Shapes: rows element by element; rows that are filled, that grow, that are marked; over any program. -/
import Derived.Test.YtnnabkldceklmaaGreatDoorJoinBTAd
import Derived.Test.YtnnabkldceklmaaGreatDoorJoinBTAe
import Derived.StillTailTactics
import Derived.Test.YtnnabkldceklmaaGreatDoorRows
import Derived.JoinedOf
namespace Go.Proofs.YtnnabkldceklmaaGreatDoor
open Go.RowKit
theorem flat_mem {n : Nat} {Fs : Nat → List Nat} {j b : Nat} (hj : j < n) (hb : b ∈ Fs j) : b ∈ (List.range n).flatMap Fs := List.mem_flatMap.2 ⟨j, List.mem_range.2 hj, hb⟩
theorem flat_nodup {n : Nat} {Fs : Nat → List Nat} (h : ((List.range n).flatMap Fs).Nodup) : (∀ j, j < n → (Fs j).Nodup) ∧ ∀ i j, i < n → j < n → i ≠ j → ∀ b ∈ Fs i, b ∉ Fs j := by
 induction n with
 | zero => exact ⟨fun j hj => absurd hj (by omega), fun i j hi => absurd hi (by omega)⟩
 | succ n ih =>
  rw [List.range_succ, List.flatMap_append] at h
  obtain ⟨h1, h2, h3⟩ := List.nodup_append.1 h
  obtain ⟨a1, a2⟩ := ih h1
  have e1 : [n].flatMap Fs = Fs n := by simp
  rw [e1] at h2 h3
  refine ⟨fun j hj => ?_, fun i j hi hj hij b hb hb' => ?_⟩
  ·by_cases e : j = n
   ·rw [e]; exact h2
   ·exact a1 j (by omega)
  ·by_cases e : j = n
   ·subst e
    exact h3 b (flat_mem (by omega) hb) b hb' rfl
   ·by_cases e2 : i = n
    ·subst e2
     exact h3 b (flat_mem (by omega) hb') b hb rfl
    ·exact a2 i j (by omega) (by omega) hij b hb hb'
theorem flat_nodup_succ {n : Nat} {Fs : Nat → List Nat} (h1 : ((List.range n).flatMap Fs).Nodup) (h2 : (Fs n).Nodup) (h3 : ∀ i, i < n → ∀ b ∈ Fs i, b ∉ Fs n) : ((List.range (n + 1)).flatMap Fs).Nodup := by
 rw [List.range_succ, List.flatMap_append]
 have e1 : [n].flatMap Fs = Fs n := by simp
 rw [e1]
 refine List.nodup_append.2 ⟨h1, h2, fun b hb c hc e => ?_⟩
 obtain ⟨i, hi, hb⟩ := List.mem_flatMap.1 hb
 exact h3 i (List.mem_range.1 hi) b hb (by rw [e]; exact hc)
theorem flat_congr {n : Nat} {Fs Gs : Nat → List Nat} (h : ∀ j, j < n → Fs j = Gs j) : (List.range n).flatMap Fs = (List.range n).flatMap Gs := by
 induction n with
 | zero => rfl
 | succ n ih => rw [List.range_succ, List.flatMap_append, List.flatMap_append, ih fun j hj => h j (by omega)]; simp [h n (by omega)]
theorem getD_set' {α : Type} (d : α) (xs : List α) (j i : Nat) (y : α) (hj : j < xs.length) : (xs.set j y).getD i d = if i = j then y else xs.getD i d := by
 rw [List.getD_eq_getElem?_getD, List.getD_eq_getElem?_getD]
 by_cases e : i = j
 ·subst e; rw [List.getElem?_set_self hj, if_pos rfl]; rfl
 ·rw [List.getElem?_set_ne (by omega), if_neg e]
theorem getD_in {α : Type} {fs : List α} {d : α} {k : Nat} (h : k < fs.length) : fs.getD k d ∈ fs := by
 rw [List.getD_eq_getElem?_getD, List.getElem?_eq_getElem h]
 exact List.getElem_mem _
theorem heap_alloc_size1 (w : World) (o : Obj) : (w.alloc o).heap.size = w.heap.size + 1 := by simp
section
variable {α : Type} {s : Sh α} {w : World} {t : TypeId} {F : List Nat} {vs : List Value} {xs : List α}
theorem O_row_at (h : (Sh.row t s).O w F vs xs) (hF : F.Nodup) {j : Nat} (hj : j < xs.length) :
  ∃ g c cur F1 us, vs = [.slice (some ⟨g, 0, none⟩) xs.length c] ∧ Blk w g t cur ∧ g ∈ F ∧ (∀ b ∈ F1, b ∈ F) ∧ g ∉ F1 ∧ F1.Nodup ∧ s.O w F1 us (xs.getD j s.d) ∧ Upd cur cur (j * s.k) s.k us ∧
   ∀ (w' : World) (cur' : Array Value) (us' : List Value) (x' : α), Blk w' g t cur' → Upd cur cur' (j * s.k) s.k us' → s.O w' F1 us' x' → (∀ b ∈ F, b ≠ g → b ∉ F1 → w'.heap[b]? = w.heap[b]?) → (Sh.row t s).O w' F vs (xs.set j x') := by
 obtain ⟨A, c, cs, Fs, rfl, ho, rfl, hel⟩ := h
 rcases ho.2 with ⟨_, h0⟩ | ⟨g, cap, cur, h1, _, h3, h4, h5, h6, h7⟩
 ·omega
 have hA : A = some ⟨g, 0, none⟩ := by injection h1
 have hc : c = cap := by injection h1
 subst hA hc
 have hob : (Value.slice (some ⟨g, 0, none⟩) xs.length c).ownBlock.toList = [g] := rfl
 rw [hob] at hF ⊢
 obtain ⟨_, hN, hD⟩ := List.nodup_append.1 hF
 obtain ⟨n1, n2⟩ := flat_nodup hN
 have hgj : ∀ i, i < xs.length → g ∉ Fs i := fun i hi hb => hD g (by simp) g (flat_mem hi hb) rfl
 have hlen : cs.length = xs.length * s.k := ho.1
 have hkc : xs.length * s.k ≤ c * s.k := Nat.mul_le_mul_right _ h4
 have hjk : j * s.k + s.k ≤ xs.length * s.k := by
  have h1 : (j + 1) * s.k ≤ xs.length * s.k := Nat.mul_le_mul_right _ hj
  rw [Nat.add_mul] at h1; omega
 have hcs : ∀ p, p < xs.length * s.k → cs[p]? = cur[p]? := fun p hp => by rw [← h7, List.getElem?_take, if_pos hp, Array.getElem?_toList]
 refine ⟨g, c, cur, Fs j, elemAt s.k cs j, rfl, h3, by simp, fun b hb => List.mem_append_right _ (flat_mem hj hb), hgj j hj, n1 j hj, hel j hj, ?_, ?_⟩
 ·refine Upd.start (elemAt_len hlen hj) (by omega) fun i hi => ?_
  rw [elemAt_get hi, hcs _ (by omega)]
 ·intro w' cur' us' x' hb hu ho' hk
  have hsz : cur'.size = c * s.k := by rw [hu.size, h6]
  have hl : (xs.set j x').length = xs.length := List.length_set
  refine ⟨some ⟨g, 0, none⟩, c, cur'.toList.take (xs.length * s.k), Fs, by rw [hl], ?_, by rw [hl]; rfl, fun i hi => ?_⟩
  ·rw [hl]
   refine ⟨by simp; omega, .inr ⟨g, c, cur', rfl, by omega, hb, h4, h5, hsz, rfl⟩⟩
  ·rw [hl] at hi
   rw [getD_set' _ _ _ _ _ hj]
   have hl2 : (cur'.toList.take (xs.length * s.k)).length = xs.length * s.k := by simp; omega
   by_cases e : i = j
   ·subst e
    rw [if_pos rfl, elemAt_ext hl2 hi hu.len fun q hq => ?_]
    ·exact ho'
    ·rw [List.getElem?_take, if_pos (by omega), Array.getElem?_toList]
     exact hu.here q hq
   ·rw [if_neg e, elemAt_ext hl2 hi (elemAt_len hlen hi) fun q hq => ?_]
    ·exact s.O_keep (hel i hi) fun b hb' => hk b (List.mem_append_right _ (flat_mem hi hb')) (fun e2 => hgj i hi (by rw [← e2]; exact hb')) (n2 i j hi hj e b hb')
    ·have hlt := mul_lt hi hq
     rw [List.getElem?_take, if_pos hlt, Array.getElem?_toList, elemAt_get hq, hcs _ hlt]
     refine hu.far _ ?_
     rcases Nat.lt_or_ge i j with h8 | h8
     ·left
      have h9 : (i + 1) * s.k ≤ j * s.k := Nat.mul_le_mul_right _ h8
      rw [Nat.add_mul] at h9; omega
     ·right
      have h9 : (j + 1) * s.k ≤ i * s.k := Nat.mul_le_mul_right _ (by omega)
      rw [Nat.add_mul] at h9; omega
end
structure Fill {α : Type} (s : Sh α) (t : TypeId) (w : World) (g : Nat) (cs : Array Value) (Fs : Nat → List Nat) (xs : List α) (j : Nat) : Prop where
 blk : Blk w g t cs
 size : cs.size = xs.length * s.k
 own : ∀ i, i < j → s.O w (Fs i) (elemAt s.k cs.toList i) (xs.getD i s.d)
 behind : ∀ i, i < j → ∀ b ∈ Fs i, g < b
 nodup : ((List.range j).flatMap Fs).Nodup
section
variable {α : Type} {s : Sh α} {w : World} {t : TypeId} {xs : List α} {g : Nat} {cs : Array Value} {Fs : Nat → List Nat}
theorem Fill.start (h : Blk w g t cs) (hs : cs.size = xs.length * s.k) : Fill s t w g cs (fun _ => []) xs 0 :=
 ⟨h, hs, fun i hi => absurd hi (by omega), fun i hi => absurd hi (by omega), by simp⟩
theorem Fill.below {w' : World} {j : Nat} (h : Fill s t w g cs Fs xs j) (hb : Below w.heap.size w w') : Fill s t w' g cs Fs xs j :=
 ⟨h.blk.below hb h.blk.lt, h.size, fun i hi => s.O_keep (h.own i hi) fun b hb' => hb.block b (s.O_lt (h.own i hi) b hb'), h.behind, h.nodup⟩
theorem Fill.add {w2 : World} {j : Nat} {us : List Value} {cs' : Array Value} {lo hi : Nat} (h : Fill s t w g cs Fs xs j) (hj : j < xs.length) (hlo : w.heap.size ≤ lo) (ho : Own s w2 lo hi us (xs.getD j s.d))
  (hb : Blk w2 g t cs') (hu : Upd cs cs' (j * s.k) s.k us) (hk : ∀ b, b < w.heap.size → b ≠ g → w2.heap[b]? = w.heap[b]?) :
  ∃ Fs', Fill s t w2 g cs' Fs' xs (j + 1) := by
 obtain ⟨F, o1, o2, o3⟩ := ho
 have hg := h.blk.lt
 have hjk : j * s.k + s.k ≤ xs.length * s.k := by
  have h1 : (j + 1) * s.k ≤ xs.length * s.k := Nat.mul_le_mul_right _ hj
  rw [Nat.add_mul] at h1; omega
 have hsz : cs'.size = xs.length * s.k := by rw [hu.size, h.size]
 have hl : cs'.toList.length = xs.length * s.k := by simp [hsz]
 have hl0 : cs.toList.length = xs.length * s.k := by simp [h.size]
 have old : ∀ i, i < j → (fun i => if i = j then F else Fs i) i = Fs i := fun i hi => by show (if i = j then F else Fs i) = Fs i; rw [if_neg (by omega)]
 refine ⟨fun i => if i = j then F else Fs i, hb, hsz, fun i hi => ?_, fun i hi b hb' => ?_, ?_⟩
 ·by_cases e : i = j
  ·subst e
   simp only [if_true]
   rw [elemAt_ext hl hj hu.len fun q hq => by rw [Array.getElem?_toList]; exact hu.here q hq]
   exact o1
  ·simp only [if_neg e]
   have hi' : i < j := by omega
   rw [elemAt_ext (us := elemAt s.k cs.toList i) hl (by omega : i < xs.length) (elemAt_len hl0 (by omega)) fun q hq => ?_]
   ·exact s.O_keep (h.own i hi') fun b hb' => hk b (s.O_lt (h.own i hi') b hb') (by have := h.behind i hi' b hb'; omega)
   ·rw [Array.getElem?_toList, elemAt_get hq, Array.getElem?_toList]
    refine hu.far _ (.inl ?_)
    have h9 : (i + 1) * s.k ≤ j * s.k := Nat.mul_le_mul_right _ hi'
    rw [Nat.add_mul] at h9; omega
 ·by_cases e : i = j
  ·subst e
   simp only [if_true] at hb'
   have := o3 b hb'; omega
  ·simp only [if_neg e] at hb'
   exact h.behind i (by omega) b hb'
 ·refine flat_nodup_succ ?_ ?_ fun i hi b hb' hb2 => ?_
  ·rw [flat_congr old]; exact h.nodup
  ·simp only [if_true]; exact o2
  ·simp only [if_true] at hb2
   rw [if_neg (by omega)] at hb'
   have := s.O_lt (h.own i hi) b hb'
   have := o3 b hb2; omega
theorem Fill.done (h : Fill s t w g cs Fs xs xs.length) (hm : xs.length ≤ maxLen) : Own (Sh.row t s) w g w.heap.size [.slice (some ⟨g, 0, none⟩) xs.length xs.length] xs := by
 have hg := h.blk.lt
 refine ⟨g :: (List.range xs.length).flatMap Fs, ⟨some ⟨g, 0, none⟩, xs.length, cs.toList, Fs, rfl, ⟨by simp [h.size], .inr ⟨g, xs.length, cs, rfl, by omega, h.blk, Nat.le_refl _, hm, h.size, ?_⟩⟩, rfl, h.own⟩, ?_, fun b hb => ?_⟩
 ·rw [List.take_of_length_le (by simp [h.size])]
 ·refine List.nodup_cons.2 ⟨fun hb => ?_, h.nodup⟩
  obtain ⟨i, hi, hb⟩ := List.mem_flatMap.1 hb
  have := h.behind i (List.mem_range.1 hi) g hb; omega
 ·rcases List.mem_cons.1 hb with rfl | hb
  ·exact ⟨Nat.le_refl _, hg⟩
  ·obtain ⟨i, hi, hb⟩ := List.mem_flatMap.1 hb
   have h1 := h.behind i (List.mem_range.1 hi) b hb
   have h2 := s.O_lt (h.own i (List.mem_range.1 hi)) b hb
   omega
end
section
variable {α : Type} (s : Sh α)
def markTo (k j : Nat) (xs : List α) : List α := mkAll s k (xs.take j) ++ xs.drop j
def cntTo (j : Nat) (xs : List α) : Nat := cntAll s (xs.take j)
theorem markTo_len (k j : Nat) (xs : List α) : (markTo s k j xs).length = xs.length := by
 simp only [markTo, List.length_append, mkAll_len, List.length_take, List.length_drop]; omega
theorem markTo_zero (k : Nat) (xs : List α) : markTo s k 0 xs = xs := by simp [markTo, mkAll]
theorem markTo_all (k : Nat) (xs : List α) : markTo s k xs.length xs = mkAll s k xs := by simp [markTo]
theorem cntTo_zero (xs : List α) : cntTo s 0 xs = 0 := by simp [cntTo, cntAll]
theorem cntTo_all (xs : List α) : cntTo s xs.length xs = cntAll s xs := by simp [cntTo]
theorem mkAll_append (k : Nat) (xs ys : List α) : mkAll s k (xs ++ ys) = mkAll s k xs ++ mkAll s (k + cntAll s xs) ys := by
 induction xs generalizing k with
 | nil => simp [mkAll, cntAll]
 | cons x xs ih =>
  simp only [List.cons_append, mkAll, ih]
  rw [show k + s.cnt x + cntAll s xs = k + cntAll s (x :: xs) by simp [cntAll]; omega]
theorem take_succ_getD {xs : List α} {j : Nat} (hj : j < xs.length) : xs.take (j + 1) = xs.take j ++ [xs.getD j s.d] := by
 rw [List.take_succ_eq_append_getElem hj, List.getD_eq_getElem?_getD, List.getElem?_eq_getElem hj]; rfl
theorem cntTo_succ {j : Nat} {xs : List α} (hj : j < xs.length) : cntTo s (j + 1) xs = cntTo s j xs + s.cnt (xs.getD j s.d) := by
 unfold cntTo
 rw [take_succ_getD s hj]
 simp [cntAll]
theorem cntTo_le {j : Nat} {xs : List α} : cntTo s j xs ≤ cntAll s xs := by
 have h : cntAll s xs = cntAll s (xs.take j) + cntAll s (xs.drop j) := by
  unfold cntAll
  rw [← List.sum_append, ← List.map_append, List.take_append_drop]
 unfold cntTo
 omega
def costTo (j : Nat) (xs : List α) : Nat := ((xs.take j).map s.cost).sum
theorem costTo_zero (xs : List α) : costTo s 0 xs = 0 := by simp [costTo]
theorem costTo_succ {j : Nat} {xs : List α} (hj : j < xs.length) : costTo s (j + 1) xs = costTo s j xs + s.cost (xs.getD j s.d) := by
 unfold costTo
 rw [take_succ_getD s hj]
 simp
theorem costTo_all (xs : List α) : xs.length + costTo s xs.length xs = costAll s xs := by simp [costTo, costAll]
theorem markTo_getD (k : Nat) {j : Nat} {xs : List α} (hj : j < xs.length) : (markTo s k j xs).getD j s.d = xs.getD j s.d := by
 have h1 : (mkAll s k (xs.take j)).length = j := by rw [mkAll_len, List.length_take]; omega
 rw [List.getD_eq_getElem?_getD, markTo, List.getElem?_append_right (by omega), h1, Nat.sub_self, List.getElem?_drop, Nat.add_zero, ← List.getD_eq_getElem?_getD]
theorem markTo_succ (k : Nat) {j : Nat} {xs : List α} (hj : j < xs.length) : (markTo s k j xs).set j (s.mark (k + cntTo s j xs) (xs.getD j s.d)) = markTo s k (j + 1) xs := by
 have h1 : (mkAll s k (xs.take j)).length = j := by rw [mkAll_len, List.length_take]; omega
 unfold markTo
 rw [take_succ_getD s hj, mkAll_append, List.set_append_right _ _ (by omega), h1, Nat.sub_self, List.drop_eq_getElem_cons hj, List.set_cons_zero]
 simp [mkAll, cntTo]
theorem mkAll_getD (k : Nat) {j : Nat} {xs : List α} (hj : j < xs.length) : (mkAll s k xs).getD j s.d = s.mark (k + cntTo s j xs) (xs.getD j s.d) := by
 have h1 : (mkAll s k (xs.take j)).length = j := by rw [mkAll_len, List.length_take]; omega
 conv => lhs; rw [← List.take_append_drop j xs, mkAll_append]
 rw [List.getD_eq_getElem?_getD, List.getElem?_append_right (by omega), h1, Nat.sub_self, List.drop_eq_getElem_cons hj]
 simp [mkAll, cntTo, List.getD_eq_getElem?_getD, List.getElem?_eq_getElem hj]
end
structure Out (G : List Nat) (w w' : World) : Prop where
 os : w'.os = w.os
 tape : w'.tape = w.tape
 output : w'.output = w.output
 size : w.heap.size ≤ w'.heap.size
 block : ∀ b, b < w.heap.size → b ∉ G → w'.heap[b]? = w.heap[b]?
theorem Out.refl (G : List Nat) (w : World) : Out G w w := ⟨rfl, rfl, rfl, Nat.le_refl _, fun _ _ _ => rfl⟩
theorem Out.below {G : List Nat} {w w1 w2 : World} (h : Out G w w1) (hb : Below w1.heap.size w1 w2) : Out G w w2 :=
 ⟨hb.os.trans h.os, hb.tape.trans h.tape, hb.output.trans h.output, Nat.le_trans h.size hb.size, fun b h1 h2 => (hb.block b (Nat.lt_of_lt_of_le h1 h.size)).trans (h.block b h1 h2)⟩
theorem Out.trans {G G' : List Nat} {w w1 w2 : World} (h : Out G w w1) (h' : Out G' w1 w2) (hs : ∀ b ∈ G', b ∈ G) : Out G w w2 :=
 ⟨h'.os.trans h.os, h'.tape.trans h.tape, h'.output.trans h.output, Nat.le_trans h.size h'.size, fun b h1 h2 => (h'.block b (Nat.lt_of_lt_of_le h1 h.size) (fun h3 => h2 (hs b h3))).trans (h.block b h1 h2)⟩
theorem Out.more {G G' : List Nat} {w w1 : World} (h : Out G w w1) (hs : ∀ b ∈ G, b ∈ G') : Out G' w w1 := ⟨h.os, h.tape, h.output, h.size, fun b h1 h2 => h.block b h1 fun h3 => h2 (hs b h3)⟩
theorem Out.setCell {G : List Nat} {w w1 : World} (h : Out G w w1) {p : Addr} (hp : p.block ∈ G) (u : Value) : Out G w (w1.setCell p u) :=
 ⟨h.os, h.tape, h.output, by simpa using h.size, fun b h1 h2 => (Below.heap_setCell w1 p u b (fun e => h2 (by rw [e]; exact hp))).trans (h.block b h1 h2)⟩
theorem Out.within {G : List Nat} {w w1 : World} {lo hi : Nat} (h : Out G w w1) (hr : ∀ b ∈ G, lo ≤ b ∧ b < hi) : Within lo hi w w1 :=
 ⟨h.os, h.tape, h.output, h.size, fun k hk hkk => h.block k hk fun h3 => by have := hr k h3; omega⟩
structure Mid (G : List Nat) (g : Nat) (t : TypeId) (cs : Array Value) (o k : Nat) (w0 w : World) (us : List Value) : Prop where
 some_ : ∃ cs', Blk w g t cs' ∧ Upd cs cs' o k us
 out : Out G w0 w
section
variable {G : List Nat} {g : Nat} {t : TypeId} {cs : Array Value} {o k : Nat} {w0 w w' : World} {us : List Value}
theorem Mid.start (hb : Blk w g t cs) (hu : Upd cs cs o k us) (G : List Nat) : Mid G g t cs o k w w us := ⟨⟨cs, hb, hu⟩, Out.refl _ _⟩
theorem Mid.below (h : Mid G g t cs o k w0 w us) (hb : Below w.heap.size w w') : Mid G g t cs o k w0 w' us := by
 obtain ⟨⟨cs', h1, h2⟩, h3⟩ := h
 exact ⟨⟨cs', h1.below hb h1.lt, h2⟩, h3.below hb⟩
theorem Mid.set_ (h : Mid G g t cs o k w0 w us) (hg : g ∈ G) {i : Nat} (hi : i < k) (v : Value) : Mid G g t cs o k w0 (w.setCell ⟨g, o + i, none⟩ v) (us.set i v) := by
 obtain ⟨⟨cs', h1, h2⟩, h3⟩ := h
 exact ⟨⟨_, h1.set_ _ v, h2.step hi v⟩, h3.setCell hg v⟩
theorem Mid.set0 (h : Mid G g t cs o k w0 w us) (hg : g ∈ G) (hi : 0 < k) (v : Value) : Mid G g t cs o k w0 (w.setCell ⟨g, o, none⟩ v) (us.set 0 v) := h.set_ hg hi v
theorem Mid.call {G' : List Nat} (h : Mid G g t cs o k w0 w us) (ho : Out G' w w') (hs : ∀ b ∈ G', b ∈ G) (hg : g ∉ G') : Mid G g t cs o k w0 w' us := by
 obtain ⟨⟨cs', h1, h2⟩, h3⟩ := h
 exact ⟨⟨cs', (ho.block g h1.lt hg).trans h1, h2⟩, h3.trans ho hs⟩
theorem Mid.cell (h : Mid G g t cs o k w0 w us) {i : Nat} (hi : i < k) : w.cell? ⟨g, o + i, none⟩ = us[i]? := by
 obtain ⟨⟨cs', h1, h2⟩, h3⟩ := h
 rw [h1.cell]; exact h2.here i hi
theorem Mid.cell0 (h : Mid G g t cs o k w0 w us) (hi : 0 < k) : w.cell? ⟨g, o, none⟩ = us[0]? := h.cell hi
theorem Mid.frozen (h : Mid G g t cs o k w0 w us) (i : Nat) : w.frozen? ⟨g, i, none⟩ = false := by
 obtain ⟨⟨cs', h1, h2⟩, h3⟩ := h
 exact h1.frozen i
end
section
variable {α : Type} {s : Sh α} {w w' : World} {F G : List Nat} {vs : List Value} {x : α}
theorem O_below (h : s.O w F vs x) (hb : Below w.heap.size w w') : s.O w' F vs x := s.O_keep h fun b hb' => hb.block b (s.O_lt h b hb')
theorem O_set (h : s.O w F vs x) {g i : Nat} (hg : g ∉ F) (u : Value) : s.O (w.setCell ⟨g, i, none⟩ u) F vs x :=
 s.O_keep h fun b hb => Below.heap_setCell w ⟨g, i, none⟩ u b (fun e => hg (by rw [← show b = g from e]; exact hb))
theorem O_out (h : s.O w F vs x) (ho : Out G w w') (hd : ∀ b ∈ F, b ∉ G) : s.O w' F vs x := s.O_keep h fun b hb => ho.block b (s.O_lt h b hb) (hd b hb)
theorem O_len {t : TypeId} {A : Option Addr} {n c : Nat} {xs : List α} (h : (Sh.row t s).O w F [.slice A n c] xs) : xs.length = n ∧ n ≤ maxLen := by
 obtain ⟨A', c', cs, Fs, e, ho, _⟩ := h
 injection e with e _
 injection e with e1 e2 e3
 subst e1 e2 e3
 refine ⟨rfl, ?_⟩
 rcases ho.2 with ⟨_, h0⟩ | ⟨g, cap, cur, _, _, _, h4, h5, _⟩
 ·omega
 ·omega
theorem mark_at {t : TypeId} {A : Option Addr} {n c k j : Nat} {xs : List α} (h : (Sh.row t s).O w F [.slice A n c] (markTo s k j xs)) (hn : xs.length = n) (hF : F.Nodup) (hj : j < n) :
  ∃ g cur F1 us, A = some ⟨g, 0, none⟩ ∧ g ∉ F1 ∧ F1.Nodup ∧ s.O w F1 us (xs.getD j s.d) ∧ Mid (g :: F1) g t cur (j * s.k) s.k w w us ∧
   ∀ (W : World) (us' : List Value), Mid (g :: F1) g t cur (j * s.k) s.k w W us' → s.O W F1 us' (s.mark (k + cntTo s j xs) (xs.getD j s.d)) → (Sh.row t s).O W F [.slice A n c] (markTo s k (j + 1) xs) ∧ Out F w W := by
 subst hn
 obtain ⟨g, c', cur, F1, us, e, hb, hg, hs, hg1, hN, ho, hu, hcl⟩ := O_row_at h hF (j := j) (by rw [markTo_len]; exact hj)
 injection e with e _
 injection e with e1 e2 e3
 subst e1
 rw [markTo_getD s k hj] at ho
 refine ⟨g, cur, F1, us, rfl, hg1, hN, ho, Mid.start hb hu _, fun W us' hm ho' => ⟨?_, hm.out.more fun b hb' => ?_⟩⟩
 ·obtain ⟨⟨cs', h1, h2⟩, h3⟩ := hm
  have := hcl W cs' us' _ h1 h2 ho' fun b hb' hbg hb1 => h3.block b ((Sh.row t s).O_lt h b hb') (by
   intro hb2
   rcases List.mem_cons.1 hb2 with hb2 | hb2
   ·exact hbg hb2
   ·exact hb1 hb2)
  rw [markTo_succ s k hj] at this
  exact this
 ·rcases List.mem_cons.1 hb' with rfl | hb'
  ·exact hg
  ·exact hs b hb'
theorem cnt_room {k j : Nat} {xs : List α} (hj : j < xs.length) {B : Nat} (h : k + cntAll s xs ≤ B) : k + cntTo s j xs + s.cnt (xs.getD j s.d) ≤ B := by
 have h1 := cntTo_succ s hj
 have h2 := cntTo_le s (j := j + 1) (xs := xs)
 omega
end
end Go.Proofs.YtnnabkldceklmaaGreatDoor
/- Shapes of texts, numbers, truth values; the walks of the slices of texts and numbers in these words. -/
namespace Go.Proofs.YtnnabkldceklmaaGreatDoor
open Go.RowKit
abbrev shS : Sh ByteArray := Sh.one Value.string ByteArray.empty markT ByteArray.size (fun _ => rfl)
abbrev shI : Sh Int := Sh.one (Value.int .i64) 0 (fun k => (k : Int)) (fun _ => 0) (fun _ => rfl)
abbrev shB : Sh Bool := Sh.one Value.bool false (fun k => ((k : Nat) : Int) % 3 == 0) (fun _ => 0) (fun _ => rfl)
section
variable {α : Type} {enc : α → Value} {d : α} {m : Nat → α} {co : α → Nat} {h1 : ∀ x, (enc x).oneCell' = true} {w : World} {lo hi : Nat} {A : Option Addr} {xs : List α} {t : TypeId} {n c : Nat} {F : List Nat}
theorem rowR_of_G (h : RowG (Sh.one enc d m co h1) w lo hi A xs) : RowR enc d w lo hi A xs.length xs :=
 ⟨rfl, fun hn => by
  obtain ⟨b, off, e, a1, a2, hc⟩ := h hn
  refine ⟨b, off, e, a1, a2, fun j hj => ?_⟩
  obtain ⟨us, h3, h4⟩ := hc j hj
  obtain rfl : us = [enc (xs.getD j d)] := h4
  have := h3 0 (by simp)
  simpa [Sh.one] using this⟩
theorem rowG_of_R (h : RowR enc d w lo hi A xs.length xs) : RowG (Sh.one enc d m co h1) w lo hi A xs := fun hn => by
 obtain ⟨b, off, e, a1, a2, hc⟩ := h.2 hn
 refine ⟨b, off, e, a1, a2, fun j hj => ⟨[enc (xs.getD j d)], fun i hi => ?_, rfl⟩⟩
 obtain rfl : i = 0 := by simpa using hi
 simp [Sh.one]
theorem rowR_of (h : (Sh.row t (Sh.one enc d m co h1)).R w lo hi [.slice A n c] xs) : RowR enc d w lo hi A n xs := by
 obtain ⟨A', c', e, h⟩ := h
 injection e with e _
 injection e with e1 e2 e3
 subst e1 e2
 exact rowR_of_G h
theorem flat_one (xs : List α) (j : Nat) (hj : j < xs.length) : elemAt 1 (xs.map enc) j = [enc (xs.getD j d)] := by
 have h1 : (xs.map enc).length = xs.length * 1 := by simp
 refine elemAt_ext h1 hj rfl fun i hi => ?_
 obtain rfl : i = 0 := by omega
 simp [List.getD_eq_getElem?_getD, hj]
theorem flat_nil (n : Nat) : (List.range n).flatMap (fun _ => ([] : List Nat)) = [] := by
 induction n with
 | zero => rfl
 | succ n ih => rw [List.range_succ, List.flatMap_append, ih]; rfl
theorem ownsRow_base {base : Nat} {size : Nat} {v : Value} {ys : List Value} (h : w.ownsRow base t size v n ys) {base' : Nat} (hb : ∀ g, v.ownBlock = some g → base' ≤ g) : w.ownsRow base' t size v n ys := by
 refine ⟨h.1, ?_⟩
 rcases h.2 with h2 | ⟨g, cap, cur, e, _, r⟩
 ·exact .inl h2
 ·exact .inr ⟨g, cap, cur, e, hb g (by rw [e]; rfl), r⟩
theorem O_of_own {base : Nat} (h : w.ownsRow base t 1 (.slice A n c) n (xs.map enc)) : (Sh.row t (Sh.one enc d m co h1)).O w (Value.slice A n c).ownBlock.toList [.slice A n c] xs := by
 obtain rfl : xs.length = n := by have := h.1; simpa using this
 exact ⟨A, c, xs.map enc, fun _ => [], rfl, ownsRow_base h (fun _ _ => Nat.zero_le _), by rw [flat_nil, List.append_nil], fun j hj => ⟨rfl, flat_one xs j hj⟩⟩
theorem own_of_O (h : (Sh.row t (Sh.one enc d m co h1)).O w F [.slice A n c] xs) : w.ownsRow 0 t 1 (.slice A n c) n (xs.map enc) ∧ F = (Value.slice A n c).ownBlock.toList := by
 obtain ⟨A', c', cs, Fs, e, ho, eF, hel⟩ := h
 injection e with e _
 injection e with e1 e2 e3
 subst e1 e2 e3
 have hcs : cs = xs.map enc := by
  have hl : cs.length = xs.length := by have := ho.1; simpa [Sh.one] using this
  apply List.ext_getElem?
  intro j
  by_cases hj : j < xs.length
  ·have h2 : elemAt 1 cs j = [enc (xs.getD j d)] := (hel j hj).2
   have h3 := elemAt_get (k := 1) (cs := cs) (j := j) (i := 0) (by omega)
   rw [h2] at h3
   simp only [Nat.mul_one, Nat.add_zero] at h3
   rw [← h3]
   simp [List.getD_eq_getElem?_getD, hj]
  ·rw [List.getElem?_eq_none (by omega), List.getElem?_eq_none (by simp; omega)]
 subst hcs
 refine ⟨ho, ?_⟩
 rw [eF, flat_congr (Gs := fun _ => []) fun j hj => (hel j hj).1, flat_nil, List.append_nil]
theorem Own_of_own {base hi : Nat} (h : w.ownsRow base t 1 (.slice A n c) n (xs.map enc)) (hh : w.heap.size ≤ hi) : Own (Sh.row t (Sh.one enc d m co h1)) w base hi [.slice A n c] xs := by
 refine ⟨_, O_of_own h, ?_, fun b hb => ?_⟩
 ·cases (Value.slice A n c).ownBlock <;> simp
 ·have := h.lt b (by simpa using hb)
  omega
theorem Own_of_ownR {base hi : Nat} {v : Value} (h : OwnR enc w base t v xs) (hh : w.heap.size ≤ hi) : ∃ A c, v = .slice A xs.length c ∧ Own (Sh.row t (Sh.one enc d m co h1)) w base hi [.slice A xs.length c] xs := by
 obtain ⟨⟨A, c, rfl⟩, h2⟩ := h
 exact ⟨A, c, rfl, Own_of_own h2 hh⟩
end
theorem Out.of_grown {w w' : World} {row : Option Nat} (h : w.grownBy w' row) : Out row.toList w w' :=
 ⟨h.os, h.tape, h.output, h.size, fun b h1 h2 => h.block b h1 (fun e => h2 (by rw [← e]; simp))⟩
theorem marksFrom_eq (k : Nat) (xs : List ByteArray) : mkAll shS k xs = marksFrom k xs.length := by
 induction xs generalizing k with
 | nil => rfl
 | cons x xs ih =>
  have e : marksFrom k (x :: xs).length = markT k :: marksFrom (k + 1) xs.length := by
   simp only [marksFrom, List.length_cons, List.range_succ_eq_map, List.map_cons, List.map_map, Nat.add_zero]
   rw [show (fun i => markT (k + i)) ∘ Nat.succ = fun i => markT (k + 1 + i) from funext fun i => by show markT (k + (i + 1)) = _; rw [show k + (i + 1) = k + 1 + i by omega]]
  rw [e, mkAll, ih]
  rfl
theorem marksI_eq (k : Nat) (xs : List Int) : mkAll shI k xs = marksI k xs.length := by
 induction xs generalizing k with
 | nil => rfl
 | cons x xs ih =>
  have e : marksI k (x :: xs).length = (k : Int) :: marksI (k + 1) xs.length := by
   simp only [marksI, List.length_cons, List.range_succ_eq_map, List.map_cons, List.map_map, Nat.add_zero]
   rw [show (fun i => ((k + i : Nat) : Int)) ∘ Nat.succ = fun i => ((k + 1 + i : Nat) : Int) from funext fun i => by show ((k + (i + 1) : Nat) : Int) = _; rw [show k + (i + 1) = k + 1 + i by omega]]
  rw [e, mkAll, ih]
  rfl
theorem cntAll_one {α : Type} {enc : α → Value} {d : α} {m : Nat → α} {co : α → Nat} {h1 : ∀ x, (enc x).oneCell' = true} (xs : List α) : cntAll (Sh.one enc d m co h1) xs = xs.length := by
 induction xs with
 | nil => rfl
 | cons x xs ih => simp only [cntAll, List.map_cons, List.sum_cons, List.length_cons] at ih ⊢; rw [ih]; simp [Sh.one]; omega
theorem costAll_S (xs : List ByteArray) : costAll shS xs = costStrs xs := rfl
theorem costAll_I (xs : List Int) : costAll shI xs = xs.length := by
 have h : (xs.map shI.cost).sum = 0 := by
  induction xs with
  | nil => rfl
  | cons x xs ih => rw [List.map_cons, List.sum_cons, ih]; rfl
 simp only [costAll, h, Nat.add_zero]
theorem markText_f (a : Int) (k : Nat) (w : World) (ha : a = (k : Int)) (h1 : 1 ≤ k) (h2 : k ≤ 4294967296) :
  Calls Tryz.prog 184 #[.int .i64 a] w fun e w' => e = .returned (.string (markT k)) ∧ Below w.heap.size w w' := by
 subst ha
 exact markText_any k w h1 h2
theorem szStringS_f (A : Option Addr) (c : Nat) (xs : List ByteArray) (lo hi : Nat) (left : Int) (w : World) (h : (Sh.row 9 shS).R w lo hi [.slice A xs.length c] xs) (_ : hi ≤ w.heap.size) (hf : (Sh.row 9 shS).fit 9223372036854775807 xs) (hl0 : 0 ≤ left) (hl : left ≤ 1048576) :
  Calls Tryz.prog 86 #[.slice A xs.length c, .int .i64 left] w fun e w' => ∃ m, e = .returned (.int .i64 m) ∧ Left left ((Sh.row 9 shS).cost xs) m ∧ Below w.heap.size w w' :=
 (szStringS_m A xs.length c lo hi left xs w (rowR_of h) hf.1 hl0 hl hf.2).mono fun e w' ⟨m, e1, e2, e3⟩ => ⟨m, e1, by rw [show (Sh.row 9 shS).cost xs = costStrs xs from costAll_S xs]; exact e2, by rw [← e3]; exact Below.refl _ _⟩
theorem szInt64S_f (A : Option Addr) (c : Nat) (xs : List Int) (lo hi : Nat) (left : Int) (w : World) (_ : (Sh.row 2 shI).R w lo hi [.slice A xs.length c] xs) (_ : hi ≤ w.heap.size) (hf : (Sh.row 2 shI).fit 9223372036854775807 xs) (hl0 : 0 ≤ left) (hl : left ≤ 1048576) :
  Calls Tryz.prog 35 #[.slice A xs.length c, .int .i64 left] w fun e w' => ∃ m, e = .returned (.int .i64 m) ∧ Left left ((Sh.row 2 shI).cost xs) m ∧ Below w.heap.size w w' :=
 (szInt64S_m A xs.length c left w hf.1 hl0 hl).mono fun e w' ⟨m, e1, e2, e3⟩ => ⟨m, e1, by rw [show (Sh.row 2 shI).cost xs = xs.length from costAll_I xs]; exact e2, by rw [← e3]; exact Below.refl _ _⟩
theorem toStringS_f (A : Option Addr) (c : Nat) (xs : List ByteArray) (lo hi : Nat) (w : World) (h : (Sh.row 9 shS).R w lo hi [.slice A xs.length c] xs) (hhi : hi ≤ w.heap.size) (hf : (Sh.row 9 shS).fit 1048576 xs) :
  Calls Tryz.prog 103 #[.slice A xs.length c] w fun e w' => ∃ A' c', e = .returned (.slice A' xs.length c') ∧ Own (Sh.row 9 shS) w' w.heap.size w'.heap.size [.slice A' xs.length c'] xs ∧ Below w.heap.size w w' :=
 (toStringS_any A xs.length c lo hi xs w (rowR_of h) hhi hf.1).mono fun e w' ⟨v, e1, e2, e3⟩ => by
  obtain ⟨A', c', rfl, h2⟩ := Own_of_ownR (m := markT) (co := ByteArray.size) (d := ByteArray.empty) (h1 := fun _ => rfl) e2 (Nat.le_refl w'.heap.size)
  exact ⟨A', c', e1, h2, e3⟩
theorem toInt64S_f (A : Option Addr) (c : Nat) (xs : List Int) (lo hi : Nat) (w : World) (h : (Sh.row 2 shI).R w lo hi [.slice A xs.length c] xs) (hhi : hi ≤ w.heap.size) (hf : (Sh.row 2 shI).fit 1048576 xs) :
  Calls Tryz.prog 48 #[.slice A xs.length c] w fun e w' => ∃ A' c', e = .returned (.slice A' xs.length c') ∧ Own (Sh.row 2 shI) w' w.heap.size w'.heap.size [.slice A' xs.length c'] xs ∧ Below w.heap.size w w' :=
 (toInt64S_any A xs.length c lo hi xs w (rowR_of h) hhi hf.1).mono fun e w' ⟨v, e1, e2, e3⟩ => by
  obtain ⟨A', c', rfl, h2⟩ := Own_of_ownR (m := fun k => (k : Int)) (co := fun _ => 0) (d := (0 : Int)) (h1 := fun _ => rfl) e2 (Nat.le_refl w'.heap.size)
  exact ⟨A', c', e1, h2, e3⟩
theorem eqStringS_f (A B : Option Addr) (c d : Nat) (xs : List ByteArray) (lo hi lo' hi' : Nat) (w : World) (h : (Sh.row 9 shS).R w lo hi [.slice A xs.length c] xs) (h' : (Sh.row 9 shS).R w lo' hi' [.slice B xs.length d] xs) (_ : hi ≤ w.heap.size) (_ : hi' ≤ w.heap.size) (hf : (Sh.row 9 shS).fit 4294967296 xs) :
  Calls Tryz.prog 128 #[.slice A xs.length c, .slice B xs.length d] w fun e w' => e = .returned (.bool true) ∧ Below w.heap.size w w' :=
 (eqStringS_b A B xs.length xs.length c d lo hi lo' hi' xs xs w (rowR_of h) (rowR_of h') hf.1 hf.1).mono fun e w' ⟨e1, e2⟩ => ⟨by rw [e1]; simp, e2⟩
theorem eqInt64S_f (A B : Option Addr) (c d : Nat) (xs : List Int) (lo hi lo' hi' : Nat) (w : World) (h : (Sh.row 2 shI).R w lo hi [.slice A xs.length c] xs) (h' : (Sh.row 2 shI).R w lo' hi' [.slice B xs.length d] xs) (_ : hi ≤ w.heap.size) (_ : hi' ≤ w.heap.size) (hf : (Sh.row 2 shI).fit 4294967296 xs) :
  Calls Tryz.prog 58 #[.slice A xs.length c, .slice B xs.length d] w fun e w' => e = .returned (.bool true) ∧ Below w.heap.size w w' :=
 (eqInt64S_any A B xs.length xs.length c d lo hi lo' hi' xs xs w (rowR_of h) (rowR_of h') hf.1 hf.1).mono fun e w' ⟨e1, e2⟩ => ⟨by rw [e1]; simp, e2⟩
theorem markStringS_f (A : Option Addr) (c k : Nat) (a : Int) (xs : List ByteArray) (F : List Nat) (w : World) (h : (Sh.row 9 shS).O w F [.slice A xs.length c] xs) (_ : F.Nodup) (ha : a = (k : Int)) (h1 : 1 ≤ k) (h2 : k + (Sh.row 9 shS).cnt xs ≤ 4294967000) :
  Calls Tryz.prog 132 #[.slice A xs.length c, .int .i64 a] w fun e w' => ∃ r : Int, e = .returned (.int .i64 r) ∧ r = ((k + (Sh.row 9 shS).cnt xs : Nat) : Int) ∧ (Sh.row 9 shS).O w' F [.slice A xs.length c] ((Sh.row 9 shS).mark k xs) ∧ Out F w w' := by
 subst ha
 obtain ⟨ho, rfl⟩ := own_of_O h
 have hc : (Sh.row 9 shS).cnt xs = xs.length := cntAll_one xs
 rw [hc] at h2 ⊢
 refine (markStringS_any 0 A xs.length c k xs w ho h1 (by omega)).mono fun e w' ⟨e1, e2, e3⟩ => ⟨_, e1, rfl, ?_, Out.of_grown e3⟩
 rw [← marksFrom_eq] at e2
 exact O_of_own e2
theorem markInt64S_f (A : Option Addr) (c k : Nat) (a : Int) (xs : List Int) (F : List Nat) (w : World) (h : (Sh.row 2 shI).O w F [.slice A xs.length c] xs) (_ : F.Nodup) (ha : a = (k : Int)) (h1 : 1 ≤ k) (h2 : k + (Sh.row 2 shI).cnt xs ≤ 4294967000) :
  Calls Tryz.prog 63 #[.slice A xs.length c, .int .i64 a] w fun e w' => ∃ r : Int, e = .returned (.int .i64 r) ∧ r = ((k + (Sh.row 2 shI).cnt xs : Nat) : Int) ∧ (Sh.row 2 shI).O w' F [.slice A xs.length c] ((Sh.row 2 shI).mark k xs) ∧ Out F w w' := by
 subst ha
 obtain ⟨ho, rfl⟩ := own_of_O h
 have hc : (Sh.row 2 shI).cnt xs = xs.length := cntAll_one xs
 rw [hc] at h2 ⊢
 refine (markInt64S_any 0 A xs.length c k xs w ho h1 (by omega)).mono fun e w' ⟨e1, e2, e3⟩ => ⟨_, e1, rfl, ?_, Out.of_grown e3⟩
 rw [← marksI_eq] at e2
 exact O_of_own e2
theorem heldStringS_f (A : Option Addr) (n c k : Nat) (a : Int) (xs : List ByteArray) (lo hi : Nat) (w : World) (h : (Sh.row 9 shS).R w lo hi [.slice A n c] ((Sh.row 9 shS).mark k xs)) (hn : n = xs.length) (hhi : hi ≤ w.heap.size) (_ : (Sh.row 9 shS).fit 4294967296 xs) (ha : a = (k : Int)) (h1 : 1 ≤ k) (h2 : k + (Sh.row 9 shS).cnt xs ≤ 4294967000) :
  Calls Tryz.prog 134 #[.slice A n c, .int .i64 a] w fun e w' => ∃ r : Int, e = .returned (.int .i64 r) ∧ r = ((k + (Sh.row 9 shS).cnt xs : Nat) : Int) ∧ Below w.heap.size w w' := by
 subst ha hn
 have hc : (Sh.row 9 shS).cnt xs = xs.length := cntAll_one xs
 rw [hc] at h2 ⊢
 have hR := rowR_of h
 rw [show (Sh.row 9 shS).mark k xs = marksFrom k xs.length from marksFrom_eq k xs] at hR
 exact (heldStringS_any A xs.length c k lo hi w hR hhi h1 (by omega)).mono fun e w' ⟨e1, e2⟩ => ⟨_, e1, rfl, e2⟩
theorem heldInt64S_f (A : Option Addr) (n c k : Nat) (a : Int) (xs : List Int) (lo hi : Nat) (w : World) (h : (Sh.row 2 shI).R w lo hi [.slice A n c] ((Sh.row 2 shI).mark k xs)) (hn : n = xs.length) (hhi : hi ≤ w.heap.size) (_ : (Sh.row 2 shI).fit 4294967296 xs) (ha : a = (k : Int)) (h1 : 1 ≤ k) (h2 : k + (Sh.row 2 shI).cnt xs ≤ 4294967000) :
  Calls Tryz.prog 68 #[.slice A n c, .int .i64 a] w fun e w' => ∃ r : Int, e = .returned (.int .i64 r) ∧ r = ((k + (Sh.row 2 shI).cnt xs : Nat) : Int) ∧ Below w.heap.size w w' := by
 subst ha hn
 have hc : (Sh.row 2 shI).cnt xs = xs.length := cntAll_one xs
 rw [hc] at h2 ⊢
 have hR := rowR_of h
 rw [show (Sh.row 2 shI).mark k xs = marksI k xs.length from marksI_eq k xs] at hR
 exact (heldInt64S_any A xs.length c k lo hi w hR hhi h1 (by omega)).mono fun e w' ⟨e1, e2⟩ => ⟨_, e1, rfl, e2⟩
end Go.Proofs.YtnnabkldceklmaaGreatDoor
/- Shapes: stores behind what is owned; a row filled element by element from what a call gave. -/
namespace Go.Proofs.YtnnabkldceklmaaGreatDoor
open Go.RowKit
section
variable {α : Type} {s : Sh α} {w W : World} {lo hi : Nat} {vs : List Value} {x : α}
theorem Own.setCell (h : Own s w lo hi vs x) {p : Addr} (hp : p.block < lo) (u : Value) : Own s (w.setCell p u) lo hi vs x := h.above ((Above.refl lo w).setCell hp u) (Nat.le_refl _)
theorem Fill.addM {t : TypeId} {g : Nat} {cs : Array Value} {Fs : Nat → List Nat} {xs : List α} {j : Nat} (h : Fill s t w g cs Fs xs j) (hj : j < xs.length) (hm : Mid [g] g t cs (j * s.k) s.k w W vs) (hlo : w.heap.size ≤ lo) (ho : Own s W lo hi vs (xs.getD j s.d)) :
  ∃ cs' Fs', Fill s t W g cs' Fs' xs (j + 1) := by
 obtain ⟨⟨cs', h1, h2⟩, h3⟩ := hm
 obtain ⟨Fs', hf⟩ := h.add hj hlo ho h1 h2 fun b hb hne => h3.block b hb (by simp [hne])
 exact ⟨cs', Fs', hf⟩
theorem Fill.room {t : TypeId} {g : Nat} {cs : Array Value} {Fs : Nat → List Nat} {xs : List α} {j : Nat} (h : Fill s t w g cs Fs xs j) (hj : j < xs.length) : j * s.k + s.k ≤ cs.size := by
 have h1 : (j + 1) * s.k ≤ xs.length * s.k := Nat.mul_le_mul_right _ hj
 rw [Nat.add_mul] at h1
 rw [h.size]; omega
theorem Out.alloc_ (F : List Nat) (w : World) (o : Obj) : Out F w (w.alloc o) := (Out.refl F w).below ((Below.refl w.heap.size w).alloc (Nat.le_refl _) o)
theorem Blk.out_ {w w' : World} {g : Nat} {t : TypeId} {cs : Array Value} {F : List Nat} (h : Blk w g t cs) (ho : Out F w w') (hg : g ∉ F) : Blk w' g t cs := (ho.block g h.lt hg).trans h
end
end Go.Proofs.YtnnabkldceklmaaGreatDoor
/- Shapes: how many marks a value takes, set against its cost; facts for the walk of a law. Over any program. -/
namespace Go.Proofs.YtnnabkldceklmaaGreatDoor
open Go.RowKit
section
variable {α β : Type} {s : Sh α} {s' : Sh β}
structure Few (s : Sh α) (a c : Nat) : Prop where
 cnt : ∀ x, s.cnt x ≤ a + c * s.cost x
 top : ∀ x, s.cntTop x ≤ a + c * s.cost x
theorem few_one {enc : α → Value} {d : α} {m : Nat → α} {co : α → Nat} {h1 : ∀ x, (enc x).oneCell' = true} : Few (Sh.one enc d m co h1) 1 0 :=
 ⟨fun x => by show (1 : Nat) ≤ _; omega, fun x => Nat.zero_le _⟩
theorem few_prod {a c a' c' : Nat} (h : Few s a c) (h' : Few s' a' c') : Few (s.prod s') (a + a') (c + c') :=
 ⟨fun x => by
  have h1 := h.cnt x.1; have h2 := h'.cnt x.2
  show s.cnt x.1 + s'.cnt x.2 ≤ a + a' + (c + c') * (s.cost x.1 + s'.cost x.2)
  have e : (c + c') * (s.cost x.1 + s'.cost x.2) = c * s.cost x.1 + c * s'.cost x.2 + (c' * s.cost x.1 + c' * s'.cost x.2) := by rw [Nat.add_mul, Nat.mul_add, Nat.mul_add]
  rw [e]; omega, fun x => by
  have h1 := h.top x.1; have h2 := h'.top x.2
  show s.cntTop x.1 + s'.cntTop x.2 ≤ a + a' + (c + c') * (s.cost x.1 + s'.cost x.2)
  have e : (c + c') * (s.cost x.1 + s'.cost x.2) = c * s.cost x.1 + c * s'.cost x.2 + (c' * s.cost x.1 + c' * s'.cost x.2) := by rw [Nat.add_mul, Nat.mul_add, Nat.mul_add]
  rw [e]; omega⟩
theorem few_all {a c : Nat} (h : Few s a c) (xs : List α) : cntAll s xs ≤ (a + c) * costAll s xs := by
 unfold cntAll costAll
 induction xs with
 | nil => simp
 | cons x xs ih =>
  have h1 := h.cnt x
  simp only [List.map_cons, List.sum_cons, List.length_cons]
  have e : (a + c) * (xs.length + 1 + (s.cost x + (xs.map s.cost).sum)) = (a + c) * (xs.length + (xs.map s.cost).sum) + (a + c) * 1 + (a * s.cost x + c * s.cost x) := by
   rw [← Nat.add_mul, ← Nat.mul_add, ← Nat.mul_add]; congr 1; omega
  rw [e]; omega
theorem few_row {t : TypeId} {a c : Nat} (h : Few s a c) : Few (Sh.row t s) 0 (a + c) :=
 ⟨fun xs => by rw [Nat.zero_add]; exact few_all h xs, fun xs => by rw [Nat.zero_add]; exact few_all h xs⟩
theorem loc_sh (s : Sh α) (lo hi : Nat) (vs : List Value) (x : α) : Loc lo hi (fun W => s.R W lo hi vs x) := fun _ _ hk h => s.R_keep h hk
theorem loc_own (s : Sh α) (lo hi : Nat) (vs : List Value) (x : α) : Loc lo hi (fun W => Own s W lo hi vs x) := fun _ _ hk h => h.keep hk
theorem Within.of_out {F : List Nat} {w w' : World} {lo hi : Nat} (h : Out F w w') (hF : ∀ b ∈ F, lo ≤ b ∧ b < hi) : Within lo hi w w' :=
 ⟨h.os, h.tape, h.output, h.size, fun k hk hd => h.block k hk fun hm => by have := hF k hm; omega⟩
end
end Go.Proofs.YtnnabkldceklmaaGreatDoor
/- FnExactBeginTop: the closed facts of its row, one by one (all at once they outgrow the kernel's memory). Printed by gen_proofo.py. -/
namespace Go.Proofs.YtnnabkldceklmaaGreatDoor
set_option maxRecDepth 100000
theorem beginTop_k0 : (Rows.fnExactBeginTopRow.wf (OpenSpec.ofChange Rows.fnExactBeginTopSpec)) = true := by kernel_rfl
theorem beginTop_k1 : (laidOutB Tryz.prog) = true := by kernel_rfl
theorem beginTop_k2 : (mapsRowed Tryz.prog) = true := by kernel_rfl
theorem beginTop_k3 : ((Tryz.f3.params.all (Tryz.prog.readableRec ·))) = true := by kernel_rfl
theorem beginTop_k4 : (namedTie Tryz.prog Rows.fnExactBeginTopRow.named Rows.fnExactBeginTopSpec.vars) = true := by kernel_rfl
theorem beginTop_k5 : ((Rows.fnExactBeginTopRow.stops == [])) = true := by kernel_rfl
theorem beginTop_k6 : ((Tryz.prog.stops == [])) = true := by kernel_rfl
theorem beginTop_k7 : ((Rows.fnExactBeginTopRow.knobs == [])) = true := by kernel_rfl
theorem beginTop_k8 : ((Tryz.prog.stopKnobs == [])) = true := by kernel_rfl
theorem beginTop_k9 : ((Rows.fnExactBeginTopRow.inPlace == Tryz.prog.inPlace 3)) = true := by kernel_rfl
theorem beginTop_k10 : ((Rows.fnExactBeginTopRow.unfollowed == Tryz.prog.unfollowed 3)) = true := by kernel_rfl
theorem beginTop_k11 : ((Rows.fnExactBeginTopRow.recurses == Tryz.prog.recurses 3)) = true := by kernel_rfl
theorem beginTop_k12 : ((Rows.fnExactBeginTopRow.named == Tryz.prog.varsNamed 3)) = true := by kernel_rfl
theorem beginTop_k13 : ((Rows.fnExactBeginTopRow.maps == (Tryz.f3.params.toList ++ Rows.fnExactBeginTopSpec.plain.varTypes Tryz.prog).any (Tryz.prog.mapsRec ·))) = true := by kernel_rfl
theorem beginTop_k14 : ((Rows.fnExactBeginTopRow.ifaces == (Tryz.f3.params.toList ++ Rows.fnExactBeginTopSpec.plain.varTypes Tryz.prog).any (Tryz.prog.ifacesRec ·))) = true := by kernel_rfl
theorem beginTop_k15 : ((Rows.fnExactBeginTopRow.mapsOut == Tryz.prog.mapsAmong Tryz.f3.resultTypes.toList)) = true := by kernel_rfl
theorem beginTop_k16 : ((Rows.fnExactBeginTopRow.loops == (Tryz.f3.params.toList ++ Rows.fnExactBeginTopSpec.plain.varTypes Tryz.prog).any (Tryz.prog.loopsFrom ·))) = true := by kernel_rfl
theorem beginTop_k17 : ((Rows.fnExactBeginTopRow.wideKeys == (Tryz.f3.params.toList ++ Rows.fnExactBeginTopSpec.plain.varTypes Tryz.prog ++ Tryz.f3.resultTypes.toList).any (Tryz.prog.wideKeysFrom ·))) = true := by kernel_rfl
theorem beginTop_k18 : (Rows.fnExactBeginTopSpec.vars.all (Tryz.prog.varReadable ·)) = true := by kernel_rfl
theorem beginTop_k19 : (Tryz.f3.resultTypes.all (fun t => Tryz.prog.readableRec t && decide (t < Tryz.prog.types.size))) = true := by kernel_rfl
theorem beginTop_k20 : ((Rows.fnExactBeginTopRow.ifacesOut == Tryz.f3.resultTypes.toList.any (Tryz.prog.ifacesRec ·))) = true := by kernel_rfl
theorem beginTop_k21 : ((Rows.fnExactBeginTopRow.loopsOut == Tryz.f3.resultTypes.toList.any (Tryz.prog.loopsFrom ·))) = true := by kernel_rfl
theorem beginTop_k22 : ((Rows.fnExactBeginTopRow.plainKeys == Tryz.prog.plainKeys)) = true := by kernel_rfl
theorem beginTop_k23 : (Rows.fnExactBeginTopRow.shortTexts.isNone) = true := by kernel_rfl
theorem beginTop_k24 : (Tryz.prog.stopsHeard) = true := by kernel_rfl
theorem beginTop_k25 : (Tryz.prog.mayEnter) = true := by kernel_rfl
theorem beginTop_k26 : ((Rows.fnExactBeginTopRow.lifted == Tryz.prog.liftsFinal)) = true := by kernel_rfl
theorem beginTop_k27 : ((Tryz.prog.make == some Rows.fnExactBeginTopRow.make)) = true := by kernel_rfl
theorem beginTop_k28 (K : List (Option IntKind)) : (Rows.fnExactBeginTopRow.kinds == (if Rows.fnExactBeginTopRow.domain.isEmpty then [] else K)) = true := rfl
theorem beginTop_k29 : ((Rows.fnExactBeginTopRow.pinned == Rows.fnExactBeginTopRow.pinnedBy)) = true := by kernel_rfl
theorem beginTop_k30 : ((Rows.fnExactBeginTopRow.veiled == (Tryz.f3.params.toList ++ Rows.fnExactBeginTopSpec.plain.varTypes Tryz.prog ++ Tryz.f3.resultTypes.toList).any (Tryz.prog.veiledRec ·))) = true := by kernel_rfl
theorem beginTop_k31 : (Rows.fnExactBeginTopRow.veiledFits Tryz.prog Tryz.f3.params.toList (Tryz.f3.params.toList ++ Rows.fnExactBeginTopSpec.plain.varTypes Tryz.prog ++ Tryz.f3.resultTypes.toList)) = true := by kernel_rfl
theorem beginTop_facts : joinedFacts Tryz.prog 3 Tryz.f3 Rows.fnExactBeginTopSpec Rows.fnExactBeginTopRow = true := by
 unfold joinedFacts
 rw [beginTop_k0, beginTop_k1, beginTop_k2, beginTop_k3, beginTop_k4, beginTop_k5, beginTop_k6, beginTop_k7, beginTop_k8, beginTop_k9, beginTop_k10, beginTop_k11, beginTop_k12, beginTop_k13, beginTop_k14, beginTop_k15, beginTop_k16, beginTop_k17, beginTop_k18, beginTop_k19, beginTop_k20, beginTop_k21, beginTop_k22, beginTop_k23, beginTop_k24, beginTop_k25, beginTop_k26, beginTop_k27, beginTop_k28, beginTop_k29, beginTop_k30, beginTop_k31]
 rfl
theorem beginTop_named : Tryz.prog.funcNamed Rows.fnExactBeginTopRow.func = some 3 := by kernel_rfl
end Go.Proofs.YtnnabkldceklmaaGreatDoor
