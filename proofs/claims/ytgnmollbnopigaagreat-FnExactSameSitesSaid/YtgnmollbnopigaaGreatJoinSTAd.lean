/- Shapes: rows element by element; rows that are filled, that grow, that are marked; over any program. -/
import Derived.Test.YtgnmollbnopigaaGreatJoinSTAa
import Derived.Test.YtgnmollbnopigaaGreatJoinSTAc
namespace Go.Proofs.YtgnmollbnopigaaGreat
open Go.RowKit
theorem flat_nodup_succ {n : Nat} {Fs : Nat → List Nat} (h1 : ((List.range n).flatMap Fs).Nodup) (h2 : (Fs n).Nodup) (h3 : ∀ i, i < n → ∀ b ∈ Fs i, b ∉ Fs n) : ((List.range (n + 1)).flatMap Fs).Nodup := by
 rw [List.range_succ, List.flatMap_append]
 have e1 : [n].flatMap Fs = Fs n := by simp
 rw [e1]
 refine List.nodup_append.2 ⟨h1, h2, fun b hb c hc e => ?_⟩
 obtain ⟨i, hi, hb⟩ := List.mem_flatMap.1 hb
 exact h3 i (List.mem_range.1 hi) b hb (by rw [e]; exact hc)
theorem flat_congr {n : Nat} {Fs Gs : Nat → List Nat} (h : ∀ j, j < n → Fs j = Gs j) : (List.range n).flatMap Fs = (List.range n).flatMap Gs := by
 induction n with
 | zero => rfl
 | succ n ih => rw [List.range_succ, List.flatMap_append, List.flatMap_append, ih fun j hj => h j (by omega)]; simp [h n (by omega)]
theorem getD_in {α : Type} {fs : List α} {d : α} {k : Nat} (h : k < fs.length) : fs.getD k d ∈ fs := by
 rw [List.getD_eq_getElem?_getD, List.getElem?_eq_getElem h]
 exact List.getElem_mem _
theorem heap_alloc_size1 (w : World) (o : Obj) : (w.alloc o).heap.size = w.heap.size + 1 := by simp
section
variable {α : Type} {s : Sh α} {w : World} {t : TypeId} {F : List Nat} {vs : List Value} {xs : List α}
end
structure Fill {α : Type} (s : Sh α) (t : TypeId) (w : World) (g : Nat) (cs : Array Value) (Fs : Nat → List Nat) (xs : List α) (j : Nat) : Prop where
 blk : Blk w g t cs
 size : cs.size = xs.length * s.k
 own : ∀ i, i < j → s.O w (Fs i) (elemAt s.k cs.toList i) (xs.getD i s.d)
 behind : ∀ i, i < j → ∀ b ∈ Fs i, g < b
 nodup : ((List.range j).flatMap Fs).Nodup
section
variable {α : Type} {s : Sh α} {w : World} {t : TypeId} {xs : List α} {g : Nat} {cs : Array Value} {Fs : Nat → List Nat}
theorem Fill.start (h : Blk w g t cs) (hs : cs.size = xs.length * s.k) : Fill s t w g cs (fun _ => []) xs 0 :=
 ⟨h, hs, fun i hi => absurd hi (by omega), fun i hi => absurd hi (by omega), by simp⟩
theorem Fill.below {w' : World} {j : Nat} (h : Fill s t w g cs Fs xs j) (hb : Below w.heap.size w w') : Fill s t w' g cs Fs xs j :=
 ⟨h.blk.below hb h.blk.lt, h.size, fun i hi => s.O_keep (h.own i hi) fun b hb' => hb.block b (s.O_lt (h.own i hi) b hb'), h.behind, h.nodup⟩
theorem Fill.add {w2 : World} {j : Nat} {us : List Value} {cs' : Array Value} {lo hi : Nat} (h : Fill s t w g cs Fs xs j) (hj : j < xs.length) (hlo : w.heap.size ≤ lo) (ho : Own s w2 lo hi us (xs.getD j s.d))
  (hb : Blk w2 g t cs') (hu : Upd cs cs' (j * s.k) s.k us) (hk : ∀ b, b < w.heap.size → b ≠ g → w2.heap[b]? = w.heap[b]?) :
  ∃ Fs', Fill s t w2 g cs' Fs' xs (j + 1) := by
 obtain ⟨F, o1, o2, o3⟩ := ho
 have hg := h.blk.lt
 have hjk : j * s.k + s.k ≤ xs.length * s.k := by
  have h1 : (j + 1) * s.k ≤ xs.length * s.k := Nat.mul_le_mul_right _ hj
  rw [Nat.add_mul] at h1; omega
 have hsz : cs'.size = xs.length * s.k := by rw [hu.size, h.size]
 have hl : cs'.toList.length = xs.length * s.k := by simp [hsz]
 have hl0 : cs.toList.length = xs.length * s.k := by simp [h.size]
 have old : ∀ i, i < j → (fun i => if i = j then F else Fs i) i = Fs i := fun i hi => by show (if i = j then F else Fs i) = Fs i; rw [if_neg (by omega)]
 refine ⟨fun i => if i = j then F else Fs i, hb, hsz, fun i hi => ?_, fun i hi b hb' => ?_, ?_⟩
 ·by_cases e : i = j
  ·subst e
   simp only [if_true]
   rw [elemAt_ext hl hj hu.len fun q hq => by rw [Array.getElem?_toList]; exact hu.here q hq]
   exact o1
  ·simp only [if_neg e]
   have hi' : i < j := by omega
   rw [elemAt_ext (us := elemAt s.k cs.toList i) hl (by omega : i < xs.length) (elemAt_len hl0 (by omega)) fun q hq => ?_]
   ·exact s.O_keep (h.own i hi') fun b hb' => hk b (s.O_lt (h.own i hi') b hb') (by have := h.behind i hi' b hb'; omega)
   ·rw [Array.getElem?_toList, elemAt_get hq, Array.getElem?_toList]
    refine hu.far _ (.inl ?_)
    have h9 : (i + 1) * s.k ≤ j * s.k := Nat.mul_le_mul_right _ hi'
    rw [Nat.add_mul] at h9; omega
 ·by_cases e : i = j
  ·subst e
   simp only [if_true] at hb'
   have := o3 b hb'; omega
  ·simp only [if_neg e] at hb'
   exact h.behind i (by omega) b hb'
 ·refine flat_nodup_succ ?_ ?_ fun i hi b hb' hb2 => ?_
  ·rw [flat_congr old]; exact h.nodup
  ·simp only [if_true]; exact o2
  ·simp only [if_true] at hb2
   rw [if_neg (by omega)] at hb'
   have := s.O_lt (h.own i hi) b hb'
   have := o3 b hb2; omega
theorem Fill.done (h : Fill s t w g cs Fs xs xs.length) (hm : xs.length ≤ maxLen) : Own (Sh.row t s) w g w.heap.size [.slice (some ⟨g, 0, none⟩) xs.length xs.length] xs := by
 have hg := h.blk.lt
 refine ⟨g :: (List.range xs.length).flatMap Fs, ⟨some ⟨g, 0, none⟩, xs.length, cs.toList, Fs, rfl, ⟨by simp [h.size], .inr ⟨g, xs.length, cs, rfl, by omega, h.blk, Nat.le_refl _, hm, h.size, ?_⟩⟩, rfl, h.own⟩, ?_, fun b hb => ?_⟩
 ·rw [List.take_of_length_le (by simp [h.size])]
 ·refine List.nodup_cons.2 ⟨fun hb => ?_, h.nodup⟩
  obtain ⟨i, hi, hb⟩ := List.mem_flatMap.1 hb
  have := h.behind i (List.mem_range.1 hi) g hb; omega
 ·rcases List.mem_cons.1 hb with rfl | hb
  ·exact ⟨Nat.le_refl _, hg⟩
  ·obtain ⟨i, hi, hb⟩ := List.mem_flatMap.1 hb
   have h1 := h.behind i (List.mem_range.1 hi) b hb
   have h2 := s.O_lt (h.own i (List.mem_range.1 hi)) b hb
   omega
end
section
variable {α : Type} (s : Sh α)
theorem take_succ_getD {xs : List α} {j : Nat} (hj : j < xs.length) : xs.take (j + 1) = xs.take j ++ [xs.getD j s.d] := by
 rw [List.take_succ_eq_append_getElem hj, List.getD_eq_getElem?_getD, List.getElem?_eq_getElem hj]; rfl
def costTo (j : Nat) (xs : List α) : Nat := ((xs.take j).map s.cost).sum
theorem costTo_zero (xs : List α) : costTo s 0 xs = 0 := by simp [costTo]
theorem costTo_succ {j : Nat} {xs : List α} (hj : j < xs.length) : costTo s (j + 1) xs = costTo s j xs + s.cost (xs.getD j s.d) := by
 unfold costTo
 rw [take_succ_getD s hj]
 simp
theorem costTo_all (xs : List α) : xs.length + costTo s xs.length xs = costAll s xs := by simp [costTo, costAll]
end
structure Out (G : List Nat) (w w' : World) : Prop where
 os : w'.os = w.os
 tape : w'.tape = w.tape
 output : w'.output = w.output
 size : w.heap.size ≤ w'.heap.size
 block : ∀ b, b < w.heap.size → b ∉ G → w'.heap[b]? = w.heap[b]?
theorem Out.refl (G : List Nat) (w : World) : Out G w w := ⟨rfl, rfl, rfl, Nat.le_refl _, fun _ _ _ => rfl⟩
theorem Out.below {G : List Nat} {w w1 w2 : World} (h : Out G w w1) (hb : Below w1.heap.size w1 w2) : Out G w w2 :=
 ⟨hb.os.trans h.os, hb.tape.trans h.tape, hb.output.trans h.output, Nat.le_trans h.size hb.size, fun b h1 h2 => (hb.block b (Nat.lt_of_lt_of_le h1 h.size)).trans (h.block b h1 h2)⟩
theorem Out.trans {G G' : List Nat} {w w1 w2 : World} (h : Out G w w1) (h' : Out G' w1 w2) (hs : ∀ b ∈ G', b ∈ G) : Out G w w2 :=
 ⟨h'.os.trans h.os, h'.tape.trans h.tape, h'.output.trans h.output, Nat.le_trans h.size h'.size, fun b h1 h2 => (h'.block b (Nat.lt_of_lt_of_le h1 h.size) (fun h3 => h2 (hs b h3))).trans (h.block b h1 h2)⟩
theorem Out.more {G G' : List Nat} {w w1 : World} (h : Out G w w1) (hs : ∀ b ∈ G, b ∈ G') : Out G' w w1 := ⟨h.os, h.tape, h.output, h.size, fun b h1 h2 => h.block b h1 fun h3 => h2 (hs b h3)⟩
theorem Out.setCell {G : List Nat} {w w1 : World} (h : Out G w w1) {p : Addr} (hp : p.block ∈ G) (u : Value) : Out G w (w1.setCell p u) :=
 ⟨h.os, h.tape, h.output, by simpa using h.size, fun b h1 h2 => (Below.heap_setCell w1 p u b (fun e => h2 (by rw [e]; exact hp))).trans (h.block b h1 h2)⟩
theorem Out.within {G : List Nat} {w w1 : World} {lo hi : Nat} (h : Out G w w1) (hr : ∀ b ∈ G, lo ≤ b ∧ b < hi) : Within lo hi w w1 :=
 ⟨h.os, h.tape, h.output, h.size, fun k hk hkk => h.block k hk fun h3 => by have := hr k h3; omega⟩
structure Mid (G : List Nat) (g : Nat) (t : TypeId) (cs : Array Value) (o k : Nat) (w0 w : World) (us : List Value) : Prop where
 some_ : ∃ cs', Blk w g t cs' ∧ Upd cs cs' o k us
 out : Out G w0 w
section
variable {G : List Nat} {g : Nat} {t : TypeId} {cs : Array Value} {o k : Nat} {w0 w w' : World} {us : List Value}
theorem Mid.start (hb : Blk w g t cs) (hu : Upd cs cs o k us) (G : List Nat) : Mid G g t cs o k w w us := ⟨⟨cs, hb, hu⟩, Out.refl _ _⟩
theorem Mid.below (h : Mid G g t cs o k w0 w us) (hb : Below w.heap.size w w') : Mid G g t cs o k w0 w' us := by
 obtain ⟨⟨cs', h1, h2⟩, h3⟩ := h
 exact ⟨⟨cs', h1.below hb h1.lt, h2⟩, h3.below hb⟩
theorem Mid.set_ (h : Mid G g t cs o k w0 w us) (hg : g ∈ G) {i : Nat} (hi : i < k) (v : Value) : Mid G g t cs o k w0 (w.setCell ⟨g, o + i, none⟩ v) (us.set i v) := by
 obtain ⟨⟨cs', h1, h2⟩, h3⟩ := h
 exact ⟨⟨_, h1.set_ _ v, h2.step hi v⟩, h3.setCell hg v⟩
theorem Mid.set0 (h : Mid G g t cs o k w0 w us) (hg : g ∈ G) (hi : 0 < k) (v : Value) : Mid G g t cs o k w0 (w.setCell ⟨g, o, none⟩ v) (us.set 0 v) := h.set_ hg hi v
theorem Mid.call {G' : List Nat} (h : Mid G g t cs o k w0 w us) (ho : Out G' w w') (hs : ∀ b ∈ G', b ∈ G) (hg : g ∉ G') : Mid G g t cs o k w0 w' us := by
 obtain ⟨⟨cs', h1, h2⟩, h3⟩ := h
 exact ⟨⟨cs', (ho.block g h1.lt hg).trans h1, h2⟩, h3.trans ho hs⟩
theorem Mid.cell (h : Mid G g t cs o k w0 w us) {i : Nat} (hi : i < k) : w.cell? ⟨g, o + i, none⟩ = us[i]? := by
 obtain ⟨⟨cs', h1, h2⟩, h3⟩ := h
 rw [h1.cell]; exact h2.here i hi
theorem Mid.cell0 (h : Mid G g t cs o k w0 w us) (hi : 0 < k) : w.cell? ⟨g, o, none⟩ = us[0]? := h.cell hi
theorem Mid.frozen (h : Mid G g t cs o k w0 w us) (i : Nat) : w.frozen? ⟨g, i, none⟩ = false := by
 obtain ⟨⟨cs', h1, h2⟩, h3⟩ := h
 exact h1.frozen i
end
section
variable {α : Type} {s : Sh α} {w w' : World} {F G : List Nat} {vs : List Value} {x : α}
end
end Go.Proofs.YtgnmollbnopigaaGreat
