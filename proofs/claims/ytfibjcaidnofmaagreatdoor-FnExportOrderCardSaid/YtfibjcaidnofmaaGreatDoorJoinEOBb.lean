/- Ranges of cells: values of many cells whose fields are not spelled out. Over any program. -/
import Derived.Test.YtfibjcaidnofmaaGreatDoorJoinEOBa
import Derived.Test.YtfibjcaidnofmaaGreatDoorJoinEOAj
import Derived.Test.YtfibjcaidnofmaaGreatDoorJoinEOAe
import Derived.Deep.MidRow
import Derived.Test.YtfibjcaidnofmaaGreatDoorJoinEOAf
namespace Go.Proofs.YtfibjcaidnofmaaGreatDoor
open Go.RowKit

theorem rng_one {w : World} {b o : Nat} {v : Value} (h : w.rangeAt b o [v]) : w.cell? ⟨b, o, none⟩ = some v := by
  simpa using h 0 v rfl
theorem rng_of {w : World} {b o : Nat} {vs : List Value} (h : CellsAt w b o vs) : w.rangeAt b o vs := fun j _ hj => (h j (List.getElem?_eq_some_iff.1 hj).1).trans hj
theorem there_blk {w : World} {b o n : Nat} {t : TypeId} {cs : Array Value} (h : Blk w b t cs) (hn : o + n ≤ cs.size) : w.there b o n := fun j hj => by
  refine ⟨?_, h.frozen _⟩
  rw [h.cell, Array.getElem?_eq_getElem (by omega)]; rfl
theorem setCells_out (b : Nat) : ∀ (us : List Value) (o : Nat) (w : World), Out [b] w (w.setCells b o us) ∧ (w.setCells b o us).heap.size = w.heap.size
  | [], _, w => ⟨⟨rfl, rfl, rfl, Nat.le_refl _, fun _ _ _ => rfl⟩, rfl⟩
  | u :: us, o, w => by
    obtain ⟨h, hz⟩ := setCells_out b us (o + 1) (w.setCell ⟨b, o, none⟩ u)
    have hs : (w.setCell ⟨b, o, none⟩ u).heap.size = w.heap.size := by simp [World.setCell]
    have h5 := h.size
    rw [hs] at h5
    exact ⟨⟨h.os, h.tape, h.output, h5, fun k hk hn => (h.block k (by omega) hn).trans (Below.heap_setCell w ⟨b, o, none⟩ u k (by simpa using hn))⟩, by rw [← hs]; exact hz⟩
theorem blk_put1 {w : World} {b o : Nat} {t : TypeId} {pre post : List Value} {old : Value} (h : Blk w b t (pre ++ ([old] ++ post)).toArray) (ho : pre.length = o) (v : Value) : Blk (w.setCell ⟨b, o, none⟩ v) b t (pre ++ ([v] ++ post)).toArray := by
  have := h.set_ o v
  subst ho
  rw [List.setIfInBounds_toArray] at this
  simpa using this
theorem blk_put {b : Nat} {t : TypeId} : ∀ (us old : List Value) (pre post : List Value) (w : World) (o : Nat), Blk w b t (pre ++ (old ++ post)).toArray → pre.length = o → old.length = us.length → Blk (w.setCells b o us) b t (pre ++ (us ++ post)).toArray
  | [], old, pre, post, w, o, h, _, hl => by
    have : old = [] := List.eq_nil_of_length_eq_zero hl
    subst this; exact h
  | u :: us, [], pre, post, w, o, h, ho, hl => by simp at hl
  | u :: us, x :: old, pre, post, w, o, h, ho, hl => by
    have h1 := blk_put1 (post := old ++ post) (by simpa using h) ho u
    have h2 := blk_put us old (pre ++ [u]) post (w.setCell ⟨b, o, none⟩ u) (o + 1) (by simpa using h1) (by simp [ho]) (by simpa using hl)
    simpa [World.setCells] using h2
section
variable {w0 w w' : World} {Fs : Facts}
theorem Stand.out {g : Nat} (h : Stand w0 Fs w) (ho : Out [g] w w') (h0 : w0.heap.size ≤ g) (hd : ∀ f ∈ Fs, f.2.1 ≤ g ∨ g + 1 ≤ f.1) : Stand w0 Fs w' :=
  h.within (a := g) (b := g + 1) ⟨ho.os, ho.tape, ho.output, ho.size, fun k hk h => ho.block k hk (by simp; omega)⟩ h0 hd
end
/-- An element of a row. -/
theorem row_at {α : Type} {s : Sh α} {w : World} {lo hi : Nat} {A : Option Addr} {n c : Nat} {xs : List α} {t : TypeId} (h : (Sh.row t s).R w lo hi [.slice A n c] xs) {j : Nat} (hj : j < n) :
    ∃ b off, A = some ⟨b, off, none⟩ ∧ lo ≤ b ∧ b < hi ∧ ∃ us, CellsAt w b (off + j * s.k) us ∧ s.R w lo hi us (xs.getD j s.d) := by
  obtain ⟨A', c', e, h⟩ := h
  injection e with e _
  injection e with e1 e2 e3
  subst e1 e2
  obtain ⟨b, off, rfl, h1, h2, hc⟩ := h (by omega)
  exact ⟨b, off, rfl, h1, h2, hc j hj⟩
theorem rng_below {w w' : World} {b o B : Nat} {us : List Value} (h : w.rangeAt b o us) (hb : Below B w w') (hB : b < B) : w'.rangeAt b o us := fun j v hj => (hb.cell (p := ⟨b, o + j, none⟩) hB).trans (h j v hj)
/-- A new row that is being filled; what hangs on its elements lies behind it. -/
structure FillR {α : Type} (s : Sh α) (w : World) (g : Nat) (xs : List α) (j : Nat) : Prop where
  lt : g < w.heap.size
  th : w.there g 0 (xs.length * s.k)
  el : ∀ i, i < j → ∃ us, w.rangeAt g (i * s.k) us ∧ us.length = s.k ∧ s.R w (g + 1) w.heap.size us (xs.getD i s.d)
section
variable {α : Type} {s : Sh α} {w w' : World} {g j : Nat} {xs : List α}
theorem FillR.start {t : TypeId} {cs : Array Value} (h : Blk w g t cs) (hs : cs.size = xs.length * s.k) : FillR s w g xs 0 := ⟨h.lt, there_blk h (by omega), fun i hi => absurd hi (by omega)⟩
theorem FillR.below (h : FillR s w g xs j) (hb : Below w.heap.size w w') : FillR s w' g xs j :=
  ⟨Nat.lt_of_lt_of_le h.lt hb.size, fun i hi => by
    have := h.th i hi
    exact ⟨by rw [hb.cell (p := ⟨g, 0 + i, none⟩) h.lt]; exact this.1, by rw [World.frozen?_of_block (a := ⟨g, 0 + i, none⟩) (hb.block g h.lt)]; exact this.2⟩, fun i hi => by
    obtain ⟨us, h1, h2, h3⟩ := h.el i hi
    exact ⟨us, rng_below h1 hb h.lt, h2, s.R_more (s.R_keep h3 fun b _ q => hb.block b q) (Nat.le_refl _) hb.size⟩⟩
theorem FillR.room (h : FillR s w g xs j) (hj : j < xs.length) {n : Nat} (hn : n = s.k) : w.there g (j * s.k) n := fun i hi => by
  have := h.th (j * s.k + i) (mul_lt hj (by omega))
  rwa [Nat.zero_add] at this
theorem FillR.add (h : FillR s w g xs j) {us : List Value} {lo : Nat} (hlo : g + 1 ≤ lo) (hj : j < xs.length) (hR : s.R w lo w.heap.size us (xs.getD j s.d)) : FillR s (w.setCells g (j * s.k) us) g xs (j + 1) := by
  obtain ⟨ho, hz⟩ := setCells_out g us (j * s.k) w
  have hk : ∀ b, g + 1 ≤ b → b < w.heap.size → (w.setCells g (j * s.k) us).heap[b]? = w.heap[b]? := fun b q1 q2 => ho.block b q2 (by simp; omega)
  refine ⟨by rw [hz]; exact h.lt, World.there_setCells h.th _ _ _, fun i hi => ?_⟩
  rw [hz]
  rcases Nat.lt_or_ge i j with hij | hij
  · obtain ⟨vs, h1, h2, h3⟩ := h.el i hij
    have h4 : (i + 1) * s.k ≤ j * s.k := Nat.mul_le_mul_right _ hij
    rw [Nat.add_mul] at h4
    exact ⟨vs, World.rangeAt_setCells_apart h1 _ _ _ (.inr (.inl (by omega))), h2, s.R_keep h3 hk⟩
  · obtain rfl : i = j := by omega
    exact ⟨us, World.rangeAt_setCells_same _ _ _ _ (h.room hj (s.R_len hR)), s.R_len hR, s.R_keep (s.R_more hR hlo (Nat.le_refl _)) hk⟩
theorem FillR.done {t : TypeId} (h : FillR s w g xs xs.length) {lo : Nat} (hlo : lo ≤ g) : (Sh.row t s).R w lo w.heap.size [.slice (some ⟨g, 0, none⟩) xs.length xs.length] xs :=
  ⟨_, _, rfl, fun _ => ⟨g, 0, rfl, hlo, h.lt, fun i hi => by
    obtain ⟨us, h1, h2, h3⟩ := h.el i hi
    refine ⟨us, fun q hq => ?_, s.R_more h3 (by omega) (Nat.le_refl _)⟩
    rw [Nat.zero_add, List.getElem?_eq_getElem hq]
    exact h1 q _ (List.getElem?_eq_getElem hq)⟩⟩
end
section
variable {P : Program}
theorem exec_loadMid {o : Oper} {a : Go.Act} {w : World} (ty : TypeId) (x : Operand) (ho : o.op = .load ty x) (b off : Nat) (hx : a.eval x = .pointer (some ⟨b, off, none⟩)) (cs : List Value) {d : TypeDesc} (hc : w.rangeAt b off cs)
    (hu : P.underlying ty = some d) (hd : d.isRow = true) (hi : (P.info? ty).map (·.size) = some cs.length) : (execOp a.eval o).run P w = .ok (.value (.agg cs.toArray)) w := by
  unfold execOp
  simp only [ho, hx, Instr.loadAt, Instr.sureAddr, Sem.run_bind, Sem.run_pure, Result.andThen_ok, run_loadVar_mid w b off ty cs d hc hu hd hi]
end

end Go.Proofs.YtfibjcaidnofmaaGreatDoor

/- A row of elements of many cells that is permuted in place: the elements with their cells and what they own, as an array. Over any program. -/
namespace Go.Proofs.YtfibjcaidnofmaaGreatDoor
open Go.RowKit

/-- The row in block g (room for c elements) holds d: of each its cells, its blocks, its value; since w0 nothing but g changed. -/
structure Lot {α : Type} [Inhabited α] (s : Sh α) (t : TypeId) (w0 w : World) (g c : Nat) (d : Array (List Value × List Nat × α)) : Prop where
  blk : ∃ cs, Blk w g t cs ∧ cs.size = c * s.k ∧ ∀ j, j < d.size → ∀ i, i < s.k → cs[j * s.k + i]? = (d[j]!).1[i]?
  room : d.size ≤ c
  out : Out [g] w0 w
  own : ∀ q ∈ d.toList, s.O w0 q.2.1 q.1 q.2.2 ∧ g ∉ q.2.1

section
variable {α : Type} [Inhabited α] {s : Sh α} {t : TypeId} {w0 w w' : World} {g c : Nat} {d : Array (List Value × List Nat × α)}

theorem get_in {β : Type} [Inhabited β] {d : Array β} {j : Nat} (h : j < d.size) : d[j]! ∈ d.toList := by
  rw [getElem!_pos d j h]
  exact Array.mem_toList_iff.2 (Array.getElem_mem h)
theorem Lot.lt (h : Lot s t w0 w g c d) : g < w.heap.size := by
  obtain ⟨cs, hb, _⟩ := h.blk
  exact hb.lt
theorem Lot.at_ (h : Lot s t w0 w g c d) {j : Nat} (hj : j < d.size) : s.O w0 (d[j]!).2.1 (d[j]!).1 (d[j]!).2.2 ∧ g ∉ (d[j]!).2.1 := h.own _ (get_in hj)
theorem Lot.reads (h : Lot s t w0 w g c d) {j : Nat} (hj : j < d.size) : s.R w 0 w.heap.size (d[j]!).1 (d[j]!).2.2 := by
  obtain ⟨h1, h2⟩ := h.at_ hj
  have h3 := s.O_keep (w' := w) h1 fun b hb => h.out.block b (s.O_lt h1 b hb) (fun hm => h2 (by rw [← List.mem_singleton.1 hm]; exact hb))
  exact s.O_R h3 fun b hb => ⟨Nat.zero_le _, s.O_lt h3 b hb⟩
theorem Lot.len (h : Lot s t w0 w g c d) {j : Nat} (hj : j < d.size) : (d[j]!).1.length = s.k := s.R_len (h.reads hj)
theorem Lot.range (h : Lot s t w0 w g c d) {j : Nat} (hj : j < d.size) : w.rangeAt g (j * s.k) (d[j]!).1 := by
  obtain ⟨cs, hb, hs, hc⟩ := h.blk
  intro i v hi
  have hl : i < s.k := by rw [← h.len hj]; exact (List.getElem?_eq_some_iff.1 hi).1
  rw [hb.cell, hc j hj i hl]
  exact hi
theorem Lot.below (h : Lot s t w0 w g c d) (hb : Below w.heap.size w w') : Lot s t w0 w' g c d := by
  obtain ⟨cs, h1, h2, h3⟩ := h.blk
  exact ⟨⟨cs, h1.below hb h1.lt, h2, h3⟩, h.room, h.out.below hb, h.own⟩
theorem Lot.there (h : Lot s t w0 w g c d) {j n : Nat} (hj : j < d.size) (hn : n = s.k) : w.there g (j * s.k) n := by
  obtain ⟨cs, hb, hs, _⟩ := h.blk
  have h1 : (j + 1) * s.k ≤ c * s.k := Nat.mul_le_mul_right _ (Nat.le_trans hj h.room)
  rw [Nat.add_mul] at h1
  exact there_blk hb (by omega)
/-- One element is written over by another one that is owned. -/
theorem Lot.put (h : Lot s t w0 w g c d) {j : Nat} (hj : j < d.size) (q : List Value × List Nat × α) (hq : s.O w0 q.2.1 q.1 q.2.2 ∧ g ∉ q.2.1) : Lot s t w0 (w.setCells g (j * s.k) q.1) g c (d.set! j q) := by
  obtain ⟨cs, hb, hs, hc⟩ := h.blk
  have hlq : q.1.length = s.k := s.R_len (s.O_R (lo := 0) (hi := w0.heap.size) hq.1 fun b hb => ⟨Nat.zero_le _, s.O_lt hq.1 b hb⟩)
  have h1 : (j + 1) * s.k ≤ c * s.k := Nat.mul_le_mul_right _ (Nat.le_trans hj h.room)
  rw [Nat.add_mul] at h1
  have hpre : cs.toList = cs.toList.take (j * s.k) ++ ((cs.toList.drop (j * s.k)).take s.k ++ (cs.toList.drop (j * s.k)).drop s.k) := by rw [List.take_append_drop, List.take_append_drop]
  have hB := blk_put q.1 ((cs.toList.drop (j * s.k)).take s.k) (cs.toList.take (j * s.k)) ((cs.toList.drop (j * s.k)).drop s.k) w (j * s.k) (t := t) (b := g) (by rw [← hpre]; exact hb) (by simp; omega) (by simp; omega)
  refine ⟨⟨_, hB, ?_, fun a ha i hi => ?_⟩, by simpa using h.room, h.out.trans (setCells_out g q.1 (j * s.k) w).1 (fun b hb => hb), fun x hx => ?_⟩
  · simp; omega
  · rw [Array.set!_eq_setIfInBounds, Array.size_setIfInBounds] at ha
    rw [List.getElem?_toArray]
    have hgo : (d.set! j q)[a]! = if a = j then q else d[a]! := by
      rw [Array.set!_eq_setIfInBounds, getElem!_pos _ a (by simpa using ha), Array.getElem_setIfInBounds]
      by_cases e : j = a
      · subst e; simp
      · rw [if_neg e, if_neg (Ne.symm e), getElem!_pos d a ha]
    rw [hgo]
    rcases Nat.lt_trichotomy a j with hlt | rfl | hgt
    · have h2 : (a + 1) * s.k ≤ j * s.k := Nat.mul_le_mul_right _ hlt
      rw [Nat.add_mul] at h2
      rw [if_neg (by omega), List.getElem?_append_left (by simp; omega), List.getElem?_take, if_pos (by omega), Array.getElem?_toList]
      exact hc a ha i hi
    · rw [if_pos rfl, List.getElem?_append_right (by simp; omega), List.getElem?_append_left (by simp; omega)]
      congr 1
      simp; omega
    · have h2 : (j + 1) * s.k ≤ a * s.k := Nat.mul_le_mul_right _ hgt
      rw [Nat.add_mul] at h2
      rw [if_neg (by omega), List.getElem?_append_right (by simp; omega), List.getElem?_append_right (by simp; omega), List.getElem?_drop, List.getElem?_drop, Array.getElem?_toList, ← hc a ha i hi]
      congr 1
      simp
      omega
  · rw [Array.set!_eq_setIfInBounds, Array.toList_setIfInBounds] at hx
    rcases List.mem_or_eq_of_mem_set hx with hx | rfl
    · exact h.own x hx
    · exact hq
theorem range_get {β : Type} [Inhabited β] (d : Array β) : (List.range d.size).map (fun j => d[j]!) = d.toList := by
  apply List.ext_getElem?
  intro i
  rw [List.getElem?_map, show d.toList[i]? = d[i]? from by simp]
  by_cases h : i < d.size
  · rw [List.getElem?_range h, Option.map_some, getElem!_pos d i h, Array.getElem?_eq_getElem h]
  · rw [List.getElem?_eq_none (by simpa using h), Array.getElem?_eq_none (by omega)]; rfl
theorem Lot.start {w : World} {F : List Nat} {A : Option Addr} {n c : Nat} {xs : List α} (h : (Sh.row t s).O w F [.slice A n c] xs) (hF : F.Nodup) (hn : 0 < n) :
    ∃ g d, A = some ⟨g, 0, none⟩ ∧ Lot s t w w g c d ∧ d.size = n ∧ c ≤ maxLen ∧ d.toList.map (·.2.2) = xs ∧ F = g :: d.toList.flatMap (·.2.1) := by
  obtain ⟨A', c', cs, Fs, e, ho, eF, hel⟩ := h
  injection e with e _
  injection e with e1 e2 e3
  subst e1 e2 e3
  rcases ho.2 with ⟨_, h0⟩ | ⟨g, cap, cur, h1, _, h3, h4, h5, h6, h7⟩
  · omega
  have hA : A = some ⟨g, 0, none⟩ := by injection h1
  have hc : c = cap := by injection h1
  subst hA hc
  have hob : (Value.slice (some ⟨g, 0, none⟩) xs.length c).ownBlock.toList = [g] := rfl
  rw [hob] at eF
  rw [eF] at hF
  obtain ⟨_, _, hD⟩ := List.nodup_append.1 hF
  have hg : ∀ i, i < xs.length → g ∉ Fs i := fun i hi hb => hD g (by simp) g (flat_mem hi hb) rfl
  have hlen : cs.length = xs.length * s.k := ho.1
  have hkc : xs.length * s.k ≤ c * s.k := Nat.mul_le_mul_right _ h4
  have hcs : ∀ p, p < xs.length * s.k → cs[p]? = cur[p]? := fun p hp => by rw [← h7, List.getElem?_take, if_pos hp, Array.getElem?_toList]
  let d : Array (List Value × List Nat × α) := ((List.range xs.length).map fun j => (elemAt s.k cs j, Fs j, xs.getD j s.d)).toArray
  have hds : d.size = xs.length := by simp [d]
  have hdj : ∀ j, j < xs.length → d[j]! = (elemAt s.k cs j, Fs j, xs.getD j s.d) := fun j hj => by rw [getElem!_pos d j (by rw [hds]; exact hj)]; simp [d]
  refine ⟨g, d, rfl, ⟨⟨cur, h3, h6, fun j hj i hi => ?_⟩, by rw [hds]; exact h4, Out.refl _ _, fun q hq => ?_⟩, hds, h5, ?_, ?_⟩
  · rw [hds] at hj
    rw [hdj j hj, elemAt_get hi, hcs _ (mul_lt hj hi)]
  · obtain ⟨j, hj, rfl⟩ := List.mem_map.1 (show q ∈ (List.range xs.length).map _ from by simpa [d] using hq)
    exact ⟨hel j (List.mem_range.1 hj), hg j (List.mem_range.1 hj)⟩
  · show ((List.range xs.length).map fun j => (elemAt s.k cs j, Fs j, xs.getD j s.d)).map (·.2.2) = xs
    rw [List.map_map]
    apply List.ext_getElem?
    intro i
    rw [List.getElem?_map]
    by_cases hi : i < xs.length
    · rw [List.getElem?_range hi]; simp [List.getD_eq_getElem?_getD, List.getElem?_eq_getElem hi]
    · rw [List.getElem?_eq_none (by simpa using hi), List.getElem?_eq_none (by omega)]; rfl
  · rw [eF]
    show _ = g :: ((List.range xs.length).map fun j => (elemAt s.k cs j, Fs j, xs.getD j s.d)).flatMap (·.2.1)
    rw [List.flatMap_map]
    rfl
/-- The row at the end: permuted, and of the blocks that it owned. -/
theorem Lot.done {d0 : Array (List Value × List Nat × α)} (h : Lot s t w0 w g c d) (hp : d.toList.Perm d0.toList) (hN : (g :: d0.toList.flatMap (·.2.1)).Nodup) (hm : c ≤ maxLen) :
    ∃ F, (Sh.row t s).O w F [.slice (some ⟨g, 0, none⟩) d.size c] (d.toList.map (·.2.2)) ∧ F.Nodup ∧ F.Perm (g :: d0.toList.flatMap (·.2.1)) := by
  obtain ⟨cs, hb, hs, hc⟩ := h.blk
  have hkc : d.size * s.k ≤ c * s.k := Nat.mul_le_mul_right _ h.room
  have hq : (g :: d.toList.flatMap (·.2.1)).Perm (g :: d0.toList.flatMap (·.2.1)) := (hp.flatMap_right _).cons g
  have hl : (d.toList.map (·.2.2)).length = d.size := by simp
  have hx : ∀ j, j < d.size → (d.toList.map (·.2.2)).getD j s.d = (d[j]!).2.2 := fun j hj => by
    rw [List.getD_eq_getElem?_getD, List.getElem?_map, Array.getElem?_toList, getElem!_pos d j hj, Array.getElem?_eq_getElem hj]; rfl
  refine ⟨g :: d.toList.flatMap (·.2.1), ⟨some ⟨g, 0, none⟩, c, cs.toList.take (d.size * s.k), fun j => (d[j]!).2.1, by rw [hl], ?_, ?_, fun j hj => ?_⟩, (hq.nodup_iff).2 hN, hq⟩
  · rw [hl]
    exact ⟨by simp; omega, .inr ⟨g, c, cs, rfl, Nat.zero_le _, hb, h.room, hm, hs, rfl⟩⟩
  · rw [hl, ← range_get d, List.flatMap_map]
    rfl
  · rw [hl] at hj
    rw [hx j hj]
    obtain ⟨h1, h2⟩ := h.at_ hj
    rw [elemAt_ext (us := (d[j]!).1) (n := d.size) (by simp; omega) hj (h.len hj) fun i hi => ?_]
    · exact s.O_keep h1 fun b hb' => h.out.block b (s.O_lt h1 b hb') (fun hm' => h2 (by rw [← List.mem_singleton.1 hm']; exact hb'))
    · rw [List.getElem?_take, if_pos (mul_lt hj hi), Array.getElem?_toList]
      exact hc j hj i hi
end

end Go.Proofs.YtfibjcaidnofmaaGreatDoor
