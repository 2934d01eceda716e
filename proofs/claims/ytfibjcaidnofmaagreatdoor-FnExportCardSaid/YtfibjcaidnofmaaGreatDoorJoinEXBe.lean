/- A whole block loaded, a whole block stored: for values of many cells. Over any program. -/
import Derived.Test.YtfibjcaidnofmaaGreatDoorJoinEXAh
import Derived.Laws.Tables
import Derived.Deep.DeepCutAuto
import Derived.Deep.CutBlock
import Derived.Test.YtfibjcaidnofmaaGreatDoorJoinEXAi
import Derived.Test.YtfibjcaidnofmaaGreatDoorJoinEXAd
import Derived.Deep.MidRow
import Derived.Test.YtfibjcaidnofmaaGreatDoorJoinEXAe
import Derived.Test.YtfibjcaidnofmaaGreatDoorJoinEXAn
import Derived.Test.YtfibjcaidnofmaaGreatDoorJoinEXBd
namespace Go.Proofs.YtfibjcaidnofmaaGreatDoor
open Go.RowKit

section
variable {P : Program}
theorem out_setRow (w : World) (g : Nat) (cs : Array Value) : Out [g] w (w.setRow g cs) :=
  ⟨rfl, rfl, rfl, by simp, fun b _ hb => setRow_other w g b cs (by simpa using hb)⟩

/-- The store of a struct at the head of a block that holds just it. -/
theorem wpList_storeAll {ops : Array Oper} {rest : List Oper} {o : Oper} {a : Go.Act} {w : World} {Q : Exit → Go.Act → World → Prop} (hgd : o.guard = none) (ty : TypeId) (x y : Operand) (ho : o.op = .store ty x y)
    (g : Nat) (cells : Array Value) (hx : a.eval x = .pointer (some ⟨g, 0, none⟩)) (hy : a.eval y = .agg cells) {t : TypeId} {old : Array Value} (hg : Blk w g t old) (hi : (P.info? ty).map (·.size) = some cells.size)
    (hold : old.size = cells.size) (h1 : ∀ u ∈ cells.toList, u.oneCell' = true)
    (h : ∀ w', Blk w' g t cells → Out [g] w w' → w'.heap.size = w.heap.size → wpList P ops Q rest (a.put o.dst undef) w') : wpList P ops Q (o :: rest) a w :=
  wpList_store_row hgd ty x y ho g cells hx hy t old hg hi hold (Array.all_eq_true_iff_forall_mem.2 fun u hu => h1 u (by simpa using hu)) (h _ (setRow_heap w g old cells t (0, 0) hg) (out_setRow w g cells) (by simp))
end

theorem Out.below1 {g B : Nat} {w w' : World} (h : Out [g] w w') (hB : B ≤ g) (hs : B ≤ w.heap.size) : Below B w w' :=
  ⟨h.os, h.tape, h.output, h.size, fun b hb => h.block b (by omega) (by simp; omega)⟩
theorem Blk.outOf {w w' : World} {g b : Nat} {t : TypeId} {cs : Array Value} (h : Blk w b t cs) (ho : Out [g] w w') (hb : b ≠ g) : Blk w' b t cs := (ho.block b h.lt (by simpa using hb)).trans h
theorem Own.outOf {α : Type} {s : Sh α} {w w' : World} {g lo hi : Nat} {vs : List Value} {x : α} (h : Own s w lo hi vs x) (ho : Out [g] w w') (hg : g < lo ∨ hi ≤ g) : Own s w' lo hi vs x := by
  obtain ⟨F, h1, h2, h3⟩ := h
  exact ⟨F, s.O_keep h1 fun b hb => ho.block b (s.O_lt h1 b hb) (by have := h3 b hb; simp; omega), h2, h3⟩
/-- The value owns what hangs on it; which blocks, the predicate S says. -/
def OwnS {α : Type} (s : Sh α) (w : World) (S : Nat → Prop) (vs : List Value) (x : α) : Prop := ∃ F, s.O w F vs x ∧ F.Nodup ∧ ∀ b ∈ F, S b
section
variable {α β : Type} {s : Sh α} {s' : Sh β} {w : World} {lo hi : Nat} {vs ws : List Value} {x : α} {y : β} {S S' : Nat → Prop}
theorem OwnS.own (h : OwnS s w S vs x) (hs : ∀ b, S b → lo ≤ b ∧ b < hi) : Own s w lo hi vs x := by
  obtain ⟨F, h1, h2, h3⟩ := h
  exact ⟨F, h1, h2, fun b hb => hs b (h3 b hb)⟩
theorem OwnS.one {enc : α → Value} {d : α} {m : Nat → α} {co : α → Nat} {h1 : ∀ x, (enc x).oneCell' = true} (w : World) (x : α) : OwnS (Sh.one enc d m co h1) w (fun _ => False) [enc x] x :=
  ⟨[], ⟨rfl, rfl⟩, List.nodup_nil, fun b hb => by cases hb⟩
theorem OwnS.prod (h1 : OwnS s w S vs x) (h2 : OwnS s' w S' ws y) (hd : ∀ b, S b → S' b → False) : OwnS (s.prod s') w (fun b => S b ∨ S' b) (vs ++ ws) (x, y) := by
  obtain ⟨F1, o1, n1, r1⟩ := h1
  obtain ⟨F2, o2, n2, r2⟩ := h2
  refine ⟨F1 ++ F2, ⟨vs, ws, F1, F2, rfl, rfl, o1, o2⟩, List.nodup_append.2 ⟨n1, n2, fun c hc c' hc' e => ?_⟩, fun c hc => ?_⟩
  · subst e; exact hd c (r1 c hc) (r2 c hc')
  · rcases List.mem_append.1 hc with hc | hc
    · exact .inl (r1 c hc)
    · exact .inr (r2 c hc)
end

end Go.Proofs.YtfibjcaidnofmaaGreatDoor

/- Ranges of cells: values of many cells whose fields are not spelled out. Over any program. -/
namespace Go.Proofs.YtfibjcaidnofmaaGreatDoor
open Go.RowKit

theorem rng_one {w : World} {b o : Nat} {v : Value} (h : w.rangeAt b o [v]) : w.cell? ⟨b, o, none⟩ = some v := by
  simpa using h 0 v rfl
theorem rng_of {w : World} {b o : Nat} {vs : List Value} (h : CellsAt w b o vs) : w.rangeAt b o vs := fun j _ hj => (h j (List.getElem?_eq_some_iff.1 hj).1).trans hj
theorem there_blk {w : World} {b o n : Nat} {t : TypeId} {cs : Array Value} (h : Blk w b t cs) (hn : o + n ≤ cs.size) : w.there b o n := fun j hj => by
  refine ⟨?_, h.frozen _⟩
  rw [h.cell, Array.getElem?_eq_getElem (by omega)]; rfl
theorem setCells_out (b : Nat) : ∀ (us : List Value) (o : Nat) (w : World), Out [b] w (w.setCells b o us) ∧ (w.setCells b o us).heap.size = w.heap.size
  | [], _, w => ⟨⟨rfl, rfl, rfl, Nat.le_refl _, fun _ _ _ => rfl⟩, rfl⟩
  | u :: us, o, w => by
    obtain ⟨h, hz⟩ := setCells_out b us (o + 1) (w.setCell ⟨b, o, none⟩ u)
    have hs : (w.setCell ⟨b, o, none⟩ u).heap.size = w.heap.size := by simp [World.setCell]
    have h5 := h.size
    rw [hs] at h5
    exact ⟨⟨h.os, h.tape, h.output, h5, fun k hk hn => (h.block k (by omega) hn).trans (Below.heap_setCell w ⟨b, o, none⟩ u k (by simpa using hn))⟩, by rw [← hs]; exact hz⟩
theorem blk_put1 {w : World} {b o : Nat} {t : TypeId} {pre post : List Value} {old : Value} (h : Blk w b t (pre ++ ([old] ++ post)).toArray) (ho : pre.length = o) (v : Value) : Blk (w.setCell ⟨b, o, none⟩ v) b t (pre ++ ([v] ++ post)).toArray := by
  have := h.set_ o v
  subst ho
  rw [List.setIfInBounds_toArray] at this
  simpa using this
theorem blk_put {b : Nat} {t : TypeId} : ∀ (us old : List Value) (pre post : List Value) (w : World) (o : Nat), Blk w b t (pre ++ (old ++ post)).toArray → pre.length = o → old.length = us.length → Blk (w.setCells b o us) b t (pre ++ (us ++ post)).toArray
  | [], old, pre, post, w, o, h, _, hl => by
    have : old = [] := List.eq_nil_of_length_eq_zero hl
    subst this; exact h
  | u :: us, [], pre, post, w, o, h, ho, hl => by simp at hl
  | u :: us, x :: old, pre, post, w, o, h, ho, hl => by
    have h1 := blk_put1 (post := old ++ post) (by simpa using h) ho u
    have h2 := blk_put us old (pre ++ [u]) post (w.setCell ⟨b, o, none⟩ u) (o + 1) (by simpa using h1) (by simp [ho]) (by simpa using hl)
    simpa [World.setCells] using h2
section
variable {w0 w w' : World} {Fs : Facts}
theorem Stand.out {g : Nat} (h : Stand w0 Fs w) (ho : Out [g] w w') (h0 : w0.heap.size ≤ g) (hd : ∀ f ∈ Fs, f.2.1 ≤ g ∨ g + 1 ≤ f.1) : Stand w0 Fs w' :=
  h.within (a := g) (b := g + 1) ⟨ho.os, ho.tape, ho.output, ho.size, fun k hk h => ho.block k hk (by simp; omega)⟩ h0 hd
end
/-- An element of a row. -/
theorem row_at {α : Type} {s : Sh α} {w : World} {lo hi : Nat} {A : Option Addr} {n c : Nat} {xs : List α} {t : TypeId} (h : (Sh.row t s).R w lo hi [.slice A n c] xs) {j : Nat} (hj : j < n) :
    ∃ b off, A = some ⟨b, off, none⟩ ∧ lo ≤ b ∧ b < hi ∧ ∃ us, CellsAt w b (off + j * s.k) us ∧ s.R w lo hi us (xs.getD j s.d) := by
  obtain ⟨A', c', e, h⟩ := h
  injection e with e _
  injection e with e1 e2 e3
  subst e1 e2
  obtain ⟨b, off, rfl, h1, h2, hc⟩ := h (by omega)
  exact ⟨b, off, rfl, h1, h2, hc j hj⟩
theorem rng_below {w w' : World} {b o B : Nat} {us : List Value} (h : w.rangeAt b o us) (hb : Below B w w') (hB : b < B) : w'.rangeAt b o us := fun j v hj => (hb.cell (p := ⟨b, o + j, none⟩) hB).trans (h j v hj)
/-- A new row that is being filled; what hangs on its elements lies behind it. -/
structure FillR {α : Type} (s : Sh α) (w : World) (g : Nat) (xs : List α) (j : Nat) : Prop where
  lt : g < w.heap.size
  th : w.there g 0 (xs.length * s.k)
  el : ∀ i, i < j → ∃ us, w.rangeAt g (i * s.k) us ∧ us.length = s.k ∧ s.R w (g + 1) w.heap.size us (xs.getD i s.d)
section
variable {α : Type} {s : Sh α} {w w' : World} {g j : Nat} {xs : List α}
theorem FillR.start {t : TypeId} {cs : Array Value} (h : Blk w g t cs) (hs : cs.size = xs.length * s.k) : FillR s w g xs 0 := ⟨h.lt, there_blk h (by omega), fun i hi => absurd hi (by omega)⟩
theorem FillR.below (h : FillR s w g xs j) (hb : Below w.heap.size w w') : FillR s w' g xs j :=
  ⟨Nat.lt_of_lt_of_le h.lt hb.size, fun i hi => by
    have := h.th i hi
    exact ⟨by rw [hb.cell (p := ⟨g, 0 + i, none⟩) h.lt]; exact this.1, by rw [World.frozen?_of_block (a := ⟨g, 0 + i, none⟩) (hb.block g h.lt)]; exact this.2⟩, fun i hi => by
    obtain ⟨us, h1, h2, h3⟩ := h.el i hi
    exact ⟨us, rng_below h1 hb h.lt, h2, s.R_more (s.R_keep h3 fun b _ q => hb.block b q) (Nat.le_refl _) hb.size⟩⟩
theorem FillR.room (h : FillR s w g xs j) (hj : j < xs.length) {n : Nat} (hn : n = s.k) : w.there g (j * s.k) n := fun i hi => by
  have := h.th (j * s.k + i) (mul_lt hj (by omega))
  rwa [Nat.zero_add] at this
theorem FillR.add (h : FillR s w g xs j) {us : List Value} {lo : Nat} (hlo : g + 1 ≤ lo) (hj : j < xs.length) (hR : s.R w lo w.heap.size us (xs.getD j s.d)) : FillR s (w.setCells g (j * s.k) us) g xs (j + 1) := by
  obtain ⟨ho, hz⟩ := setCells_out g us (j * s.k) w
  have hk : ∀ b, g + 1 ≤ b → b < w.heap.size → (w.setCells g (j * s.k) us).heap[b]? = w.heap[b]? := fun b q1 q2 => ho.block b q2 (by simp; omega)
  refine ⟨by rw [hz]; exact h.lt, World.there_setCells h.th _ _ _, fun i hi => ?_⟩
  rw [hz]
  rcases Nat.lt_or_ge i j with hij | hij
  · obtain ⟨vs, h1, h2, h3⟩ := h.el i hij
    have h4 : (i + 1) * s.k ≤ j * s.k := Nat.mul_le_mul_right _ hij
    rw [Nat.add_mul] at h4
    exact ⟨vs, World.rangeAt_setCells_apart h1 _ _ _ (.inr (.inl (by omega))), h2, s.R_keep h3 hk⟩
  · obtain rfl : i = j := by omega
    exact ⟨us, World.rangeAt_setCells_same _ _ _ _ (h.room hj (s.R_len hR)), s.R_len hR, s.R_keep (s.R_more hR hlo (Nat.le_refl _)) hk⟩
theorem FillR.done {t : TypeId} (h : FillR s w g xs xs.length) {lo : Nat} (hlo : lo ≤ g) : (Sh.row t s).R w lo w.heap.size [.slice (some ⟨g, 0, none⟩) xs.length xs.length] xs :=
  ⟨_, _, rfl, fun _ => ⟨g, 0, rfl, hlo, h.lt, fun i hi => by
    obtain ⟨us, h1, h2, h3⟩ := h.el i hi
    refine ⟨us, fun q hq => ?_, s.R_more h3 (by omega) (Nat.le_refl _)⟩
    rw [Nat.zero_add, List.getElem?_eq_getElem hq]
    exact h1 q _ (List.getElem?_eq_getElem hq)⟩⟩
end
section
variable {P : Program}
theorem exec_loadMid {o : Oper} {a : Go.Act} {w : World} (ty : TypeId) (x : Operand) (ho : o.op = .load ty x) (b off : Nat) (hx : a.eval x = .pointer (some ⟨b, off, none⟩)) (cs : List Value) {d : TypeDesc} (hc : w.rangeAt b off cs)
    (hu : P.underlying ty = some d) (hd : d.isRow = true) (hi : (P.info? ty).map (·.size) = some cs.length) : (execOp a.eval o).run P w = .ok (.value (.agg cs.toArray)) w := by
  unfold execOp
  simp only [ho, hx, Instr.loadAt, Instr.sureAddr, Sem.run_bind, Sem.run_pure, Result.andThen_ok, run_loadVar_mid w b off ty cs d hc hu hd hi]
end

end Go.Proofs.YtfibjcaidnofmaaGreatDoor

/- A row of elements of many cells that is permuted in place: the elements with their cells and what they own, as an array. Over any program. -/
namespace Go.Proofs.YtfibjcaidnofmaaGreatDoor
open Go.RowKit

/-- The row in block g (room for c elements) holds d: of each its cells, its blocks, its value; since w0 nothing but g changed. -/
structure Lot {α : Type} [Inhabited α] (s : Sh α) (t : TypeId) (w0 w : World) (g c : Nat) (d : Array (List Value × List Nat × α)) : Prop where
  blk : ∃ cs, Blk w g t cs ∧ cs.size = c * s.k ∧ ∀ j, j < d.size → ∀ i, i < s.k → cs[j * s.k + i]? = (d[j]!).1[i]?
  room : d.size ≤ c
  out : Out [g] w0 w
  own : ∀ q ∈ d.toList, s.O w0 q.2.1 q.1 q.2.2 ∧ g ∉ q.2.1

section
variable {α : Type} [Inhabited α] {s : Sh α} {t : TypeId} {w0 w w' : World} {g c : Nat} {d : Array (List Value × List Nat × α)}

theorem get_in {β : Type} [Inhabited β] {d : Array β} {j : Nat} (h : j < d.size) : d[j]! ∈ d.toList := by
  rw [getElem!_pos d j h]
  exact Array.mem_toList_iff.2 (Array.getElem_mem h)
theorem Lot.lt (h : Lot s t w0 w g c d) : g < w.heap.size := by
  obtain ⟨cs, hb, _⟩ := h.blk
  exact hb.lt
theorem Lot.at_ (h : Lot s t w0 w g c d) {j : Nat} (hj : j < d.size) : s.O w0 (d[j]!).2.1 (d[j]!).1 (d[j]!).2.2 ∧ g ∉ (d[j]!).2.1 := h.own _ (get_in hj)
theorem Lot.reads (h : Lot s t w0 w g c d) {j : Nat} (hj : j < d.size) : s.R w 0 w.heap.size (d[j]!).1 (d[j]!).2.2 := by
  obtain ⟨h1, h2⟩ := h.at_ hj
  have h3 := s.O_keep (w' := w) h1 fun b hb => h.out.block b (s.O_lt h1 b hb) (fun hm => h2 (by rw [← List.mem_singleton.1 hm]; exact hb))
  exact s.O_R h3 fun b hb => ⟨Nat.zero_le _, s.O_lt h3 b hb⟩
theorem Lot.len (h : Lot s t w0 w g c d) {j : Nat} (hj : j < d.size) : (d[j]!).1.length = s.k := s.R_len (h.reads hj)
theorem Lot.range (h : Lot s t w0 w g c d) {j : Nat} (hj : j < d.size) : w.rangeAt g (j * s.k) (d[j]!).1 := by
  obtain ⟨cs, hb, hs, hc⟩ := h.blk
  intro i v hi
  have hl : i < s.k := by rw [← h.len hj]; exact (List.getElem?_eq_some_iff.1 hi).1
  rw [hb.cell, hc j hj i hl]
  exact hi
theorem Lot.below (h : Lot s t w0 w g c d) (hb : Below w.heap.size w w') : Lot s t w0 w' g c d := by
  obtain ⟨cs, h1, h2, h3⟩ := h.blk
  exact ⟨⟨cs, h1.below hb h1.lt, h2, h3⟩, h.room, h.out.below hb, h.own⟩
theorem Lot.there (h : Lot s t w0 w g c d) {j n : Nat} (hj : j < d.size) (hn : n = s.k) : w.there g (j * s.k) n := by
  obtain ⟨cs, hb, hs, _⟩ := h.blk
  have h1 : (j + 1) * s.k ≤ c * s.k := Nat.mul_le_mul_right _ (Nat.le_trans hj h.room)
  rw [Nat.add_mul] at h1
  exact there_blk hb (by omega)
/-- One element is written over by another one that is owned. -/
theorem Lot.put (h : Lot s t w0 w g c d) {j : Nat} (hj : j < d.size) (q : List Value × List Nat × α) (hq : s.O w0 q.2.1 q.1 q.2.2 ∧ g ∉ q.2.1) : Lot s t w0 (w.setCells g (j * s.k) q.1) g c (d.set! j q) := by
  obtain ⟨cs, hb, hs, hc⟩ := h.blk
  have hlq : q.1.length = s.k := s.R_len (s.O_R (lo := 0) (hi := w0.heap.size) hq.1 fun b hb => ⟨Nat.zero_le _, s.O_lt hq.1 b hb⟩)
  have h1 : (j + 1) * s.k ≤ c * s.k := Nat.mul_le_mul_right _ (Nat.le_trans hj h.room)
  rw [Nat.add_mul] at h1
  have hpre : cs.toList = cs.toList.take (j * s.k) ++ ((cs.toList.drop (j * s.k)).take s.k ++ (cs.toList.drop (j * s.k)).drop s.k) := by rw [List.take_append_drop, List.take_append_drop]
  have hB := blk_put q.1 ((cs.toList.drop (j * s.k)).take s.k) (cs.toList.take (j * s.k)) ((cs.toList.drop (j * s.k)).drop s.k) w (j * s.k) (t := t) (b := g) (by rw [← hpre]; exact hb) (by simp; omega) (by simp; omega)
  refine ⟨⟨_, hB, ?_, fun a ha i hi => ?_⟩, by simpa using h.room, h.out.trans (setCells_out g q.1 (j * s.k) w).1 (fun b hb => hb), fun x hx => ?_⟩
  · simp; omega
  · rw [Array.set!_eq_setIfInBounds, Array.size_setIfInBounds] at ha
    rw [List.getElem?_toArray]
    have hgo : (d.set! j q)[a]! = if a = j then q else d[a]! := by
      rw [Array.set!_eq_setIfInBounds, getElem!_pos _ a (by simpa using ha), Array.getElem_setIfInBounds]
      by_cases e : j = a
      · subst e; simp
      · rw [if_neg e, if_neg (Ne.symm e), getElem!_pos d a ha]
    rw [hgo]
    rcases Nat.lt_trichotomy a j with hlt | rfl | hgt
    · have h2 : (a + 1) * s.k ≤ j * s.k := Nat.mul_le_mul_right _ hlt
      rw [Nat.add_mul] at h2
      rw [if_neg (by omega), List.getElem?_append_left (by simp; omega), List.getElem?_take, if_pos (by omega), Array.getElem?_toList]
      exact hc a ha i hi
    · rw [if_pos rfl, List.getElem?_append_right (by simp; omega), List.getElem?_append_left (by simp; omega)]
      congr 1
      simp; omega
    · have h2 : (j + 1) * s.k ≤ a * s.k := Nat.mul_le_mul_right _ hgt
      rw [Nat.add_mul] at h2
      rw [if_neg (by omega), List.getElem?_append_right (by simp; omega), List.getElem?_append_right (by simp; omega), List.getElem?_drop, List.getElem?_drop, Array.getElem?_toList, ← hc a ha i hi]
      congr 1
      simp
      omega
  · rw [Array.set!_eq_setIfInBounds, Array.toList_setIfInBounds] at hx
    rcases List.mem_or_eq_of_mem_set hx with hx | rfl
    · exact h.own x hx
    · exact hq
theorem range_get {β : Type} [Inhabited β] (d : Array β) : (List.range d.size).map (fun j => d[j]!) = d.toList := by
  apply List.ext_getElem?
  intro i
  rw [List.getElem?_map, show d.toList[i]? = d[i]? from by simp]
  by_cases h : i < d.size
  · rw [List.getElem?_range h, Option.map_some, getElem!_pos d i h, Array.getElem?_eq_getElem h]
  · rw [List.getElem?_eq_none (by simpa using h), Array.getElem?_eq_none (by omega)]; rfl
theorem Lot.start {w : World} {F : List Nat} {A : Option Addr} {n c : Nat} {xs : List α} (h : (Sh.row t s).O w F [.slice A n c] xs) (hF : F.Nodup) (hn : 0 < n) :
    ∃ g d, A = some ⟨g, 0, none⟩ ∧ Lot s t w w g c d ∧ d.size = n ∧ c ≤ maxLen ∧ d.toList.map (·.2.2) = xs ∧ F = g :: d.toList.flatMap (·.2.1) := by
  obtain ⟨A', c', cs, Fs, e, ho, eF, hel⟩ := h
  injection e with e _
  injection e with e1 e2 e3
  subst e1 e2 e3
  rcases ho.2 with ⟨_, h0⟩ | ⟨g, cap, cur, h1, _, h3, h4, h5, h6, h7⟩
  · omega
  have hA : A = some ⟨g, 0, none⟩ := by injection h1
  have hc : c = cap := by injection h1
  subst hA hc
  have hob : (Value.slice (some ⟨g, 0, none⟩) xs.length c).ownBlock.toList = [g] := rfl
  rw [hob] at eF
  rw [eF] at hF
  obtain ⟨_, _, hD⟩ := List.nodup_append.1 hF
  have hg : ∀ i, i < xs.length → g ∉ Fs i := fun i hi hb => hD g (by simp) g (flat_mem hi hb) rfl
  have hlen : cs.length = xs.length * s.k := ho.1
  have hkc : xs.length * s.k ≤ c * s.k := Nat.mul_le_mul_right _ h4
  have hcs : ∀ p, p < xs.length * s.k → cs[p]? = cur[p]? := fun p hp => by rw [← h7, List.getElem?_take, if_pos hp, Array.getElem?_toList]
  let d : Array (List Value × List Nat × α) := ((List.range xs.length).map fun j => (elemAt s.k cs j, Fs j, xs.getD j s.d)).toArray
  have hds : d.size = xs.length := by simp [d]
  have hdj : ∀ j, j < xs.length → d[j]! = (elemAt s.k cs j, Fs j, xs.getD j s.d) := fun j hj => by rw [getElem!_pos d j (by rw [hds]; exact hj)]; simp [d]
  refine ⟨g, d, rfl, ⟨⟨cur, h3, h6, fun j hj i hi => ?_⟩, by rw [hds]; exact h4, Out.refl _ _, fun q hq => ?_⟩, hds, h5, ?_, ?_⟩
  · rw [hds] at hj
    rw [hdj j hj, elemAt_get hi, hcs _ (mul_lt hj hi)]
  · obtain ⟨j, hj, rfl⟩ := List.mem_map.1 (show q ∈ (List.range xs.length).map _ from by simpa [d] using hq)
    exact ⟨hel j (List.mem_range.1 hj), hg j (List.mem_range.1 hj)⟩
  · show ((List.range xs.length).map fun j => (elemAt s.k cs j, Fs j, xs.getD j s.d)).map (·.2.2) = xs
    rw [List.map_map]
    apply List.ext_getElem?
    intro i
    rw [List.getElem?_map]
    by_cases hi : i < xs.length
    · rw [List.getElem?_range hi]; simp [List.getD_eq_getElem?_getD, List.getElem?_eq_getElem hi]
    · rw [List.getElem?_eq_none (by simpa using hi), List.getElem?_eq_none (by omega)]; rfl
  · rw [eF]
    show _ = g :: ((List.range xs.length).map fun j => (elemAt s.k cs j, Fs j, xs.getD j s.d)).flatMap (·.2.1)
    rw [List.flatMap_map]
    rfl
/-- The row at the end: permuted, and of the blocks that it owned. -/
theorem Lot.done {d0 : Array (List Value × List Nat × α)} (h : Lot s t w0 w g c d) (hp : d.toList.Perm d0.toList) (hN : (g :: d0.toList.flatMap (·.2.1)).Nodup) (hm : c ≤ maxLen) :
    ∃ F, (Sh.row t s).O w F [.slice (some ⟨g, 0, none⟩) d.size c] (d.toList.map (·.2.2)) ∧ F.Nodup ∧ F.Perm (g :: d0.toList.flatMap (·.2.1)) := by
  obtain ⟨cs, hb, hs, hc⟩ := h.blk
  have hkc : d.size * s.k ≤ c * s.k := Nat.mul_le_mul_right _ h.room
  have hq : (g :: d.toList.flatMap (·.2.1)).Perm (g :: d0.toList.flatMap (·.2.1)) := (hp.flatMap_right _).cons g
  have hl : (d.toList.map (·.2.2)).length = d.size := by simp
  have hx : ∀ j, j < d.size → (d.toList.map (·.2.2)).getD j s.d = (d[j]!).2.2 := fun j hj => by
    rw [List.getD_eq_getElem?_getD, List.getElem?_map, Array.getElem?_toList, getElem!_pos d j hj, Array.getElem?_eq_getElem hj]; rfl
  refine ⟨g :: d.toList.flatMap (·.2.1), ⟨some ⟨g, 0, none⟩, c, cs.toList.take (d.size * s.k), fun j => (d[j]!).2.1, by rw [hl], ?_, ?_, fun j hj => ?_⟩, (hq.nodup_iff).2 hN, hq⟩
  · rw [hl]
    exact ⟨by simp; omega, .inr ⟨g, c, cs, rfl, Nat.zero_le _, hb, h.room, hm, hs, rfl⟩⟩
  · rw [hl, ← range_get d, List.flatMap_map]
    rfl
  · rw [hl] at hj
    rw [hx j hj]
    obtain ⟨h1, h2⟩ := h.at_ hj
    rw [elemAt_ext (us := (d[j]!).1) (n := d.size) (by simp; omega) hj (h.len hj) fun i hi => ?_]
    · exact s.O_keep h1 fun b hb' => h.out.block b (s.O_lt h1 b hb') (fun hm' => h2 (by rw [← List.mem_singleton.1 hm']; exact hb'))
    · rw [List.getElem?_take, if_pos (mul_lt hj hi), Array.getElem?_toList]
      exact hc j hj i hi
end

end Go.Proofs.YtfibjcaidnofmaaGreatDoor

/- Both sides' comparisons: what they answer, plainly. -/
namespace Go.Proofs.YtfibjcaidnofmaaGreatDoor
open Go.RowKit

section
variable {α : Type} {d : α} {xs ys : List α} {k : Nat}
theorem take_step (h : xs.take k = ys.take k) (hk : k < xs.length) (hl : xs.length = ys.length) (he : xs.getD k d = ys.getD k d) : xs.take (k + 1) = ys.take (k + 1) := by
  have h2 := List.take_succ_eq_append_getElem (l := ys) (i := k) (by omega)
  rw [List.take_succ_eq_append_getElem hk, h2, h]
  rw [List.getD_eq_getElem?_getD, List.getD_eq_getElem?_getD, List.getElem?_eq_getElem hk, List.getElem?_eq_getElem (by omega)] at he
  have h3 : xs[k] = ys[k] := by simpa using he
  rw [h3]
theorem take_all (h : xs.take xs.length = ys.take xs.length) (hl : xs.length = ys.length) : xs = ys := by
  rwa [List.take_length, hl, List.take_length] at h
theorem ne_of_len (h : ¬ xs.length = ys.length) : xs ≠ ys := fun e => h (by rw [e])
theorem ne_at (he : ¬ xs.getD k d = ys.getD k d) : xs ≠ ys := fun e => he (by rw [e])
end
/-- The two are the same. -/
noncomputable def sameB {α : Type} (x y : α) : Bool := @decide (x = y) (Classical.propDecidable _)
theorem same_f {α : Type} {x y : α} (h : ¬ x = y) : sameB x y = false := @decide_eq_false _ (Classical.propDecidable _) h
theorem same_t {α : Type} {x y : α} (h : x = y) : sameB x y = true := @decide_eq_true _ (Classical.propDecidable _) h
theorem nf {α β : Type} (f : α → β) {x y : α} {a : Bool} (h : Hid (a = sameB x y)) (hne : ¬ f x = f y) : Hid (a = false) := Lib.hid (h.out.trans (same_f fun e => hne (congrArg f e)))
theorem str_ne {x y : ByteArray} (h : ¬ x = y) : (x.toList == y.toList) = false := by
  rw [beq_eq_false_iff_ne]
  exact fun e => h (bytes_toList_inj.1 e)

end Go.Proofs.YtfibjcaidnofmaaGreatDoor

/- Comparisons of rows of texts and numbers, both sides. Printed by gen_same.py. -/
namespace Go.Proofs.YtfibjcaidnofmaaGreatDoor
open Go.RowKit
set_option maxHeartbeats 4000000 in
set_option maxRecDepth 100000 in
theorem l02Same_r (A B : Option Addr) (c d : Nat) (xs ys : List ByteArray) (lo hi lo' hi' : Nat) (w : World) (h : (Sh.row 9 shS).R w lo hi [.slice A xs.length c] xs) (h' : (Sh.row 9 shS).R w lo' hi' [.slice B ys.length d] ys) (hhi : hi ≤ w.heap.size) (hhi' : hi' ≤ w.heap.size) (hn : xs.length ≤ 4294967296) (_hm : ys.length ≤ 4294967296) :
    Calls Tryz.prog 36 #[.slice A xs.length c, .slice B ys.length d] w fun e w' => e = .returned (.bool (sameB xs ys)) ∧ Below w.heap.size w w' := by
  by_cases hl : xs.length = ys.length
  · have HA := Lib.hid h; have HA' := Lib.hid h'; have HL := Lib.hid hl
    rw [← hl] at HA' ⊢
    clear h h' _hm hl
    go_enter Tryz.func36, Tryz.ntmps36
    go_wp2_with fail
    go_loopw [5] (fun i wr => ∃ k : Nat, k ≤ xs.length ∧ i = .int .i64 k ∧ Hid (xs.take k = ys.take k) ∧ Below w.heap.size w wr) (fun i _ => xs.length - (intOf i).toNat)
    case atStart => exact ⟨0, Nat.zero_le _, rfl, Lib.hid rfl, Below.refl _ _⟩
    case round =>
      obtain ⟨k, hk, rfl, htk, hb⟩ := hrel
      by_cases hlt : k < xs.length
      · obtain ⟨b, off, rfl, hb1, hb2, us, hc, hX⟩ := row_at ((Sh.row 9 shS).R_below HA.out hb hhi) hlt
        obtain ⟨b', off', rfl, hb1', hb2', us', hc', hX'⟩ := row_at ((Sh.row 9 shS).R_below HA'.out hb hhi') hlt
        have HST := Lib.hid (fun he => take_step (d := shS.d) htk.out hlt HL.out he)
        have HNE := Lib.hid (fun he => ne_at (xs := xs) (ys := ys) (d := shS.d) (k := k) he)
        obtain rfl := (show us = [.string (xs.getD k shS.d)] from hX)
        obtain rfl := (show us' = [.string (ys.getD k shS.d)] from hX')
        have e1 := rng_one (rng_of hc); have e2 := rng_one (rng_of hc')
        simp only [show shS.k = 1 from rfl, Nat.mul_one] at e1 e2
        have HD := Lib.hid hb.drew
        clear hc hc' hX hX' htk
        generalize xs.getD k shS.d = X at *
        generalize ys.getD k shS.d = Y at *
        go_upto_region 6 with fail
        refine AnyT.region (fun _ => false) (fun W => W.cell? ⟨b, off + k, none⟩ = some (.string X) ∧ W.cell? ⟨b', off' + k, none⟩ = some (.string Y)) (by kernel_rfl) ⟨e1, e2⟩ (fun hHeld => ?_)
        generalize wr.drew = w4 at *
        clear e1 e2
        ((refine AnyT.takeAny 0 17 ?_ rfl (by kernel_rfl) (by kernel_rfl) (by kernel_rfl) rfl rfl (fun _ _ _ _ h => h) rfl ?_ (by assumption) ?_); rotate_left; (intro w; go_simp; (try (with_reducible rfl))); simp only [Act.put, List.setIfInBounds_toArray, List.set_cons_zero, List.set_cons_succ])
        ((refine AnyT.takeAny 1 18 ?_ rfl (by kernel_rfl) (by kernel_rfl) (by kernel_rfl) rfl rfl (fun _ _ _ _ h => h) rfl ?_ (by assumption) ?_); rotate_left; (intro w; go_simp; (try (with_reducible rfl))); simp only [Act.put, List.setIfInBounds_toArray, List.set_cons_zero, List.set_cons_succ])
        ((refine AnyT.takeAny 2 19 ?_ rfl (by kernel_rfl) (by kernel_rfl) (by kernel_rfl) rfl rfl (fun _ _ _ _ h => h) rfl ?_ (by assumption) ?_); rotate_left; (intro w; go_simp; (try (with_reducible rfl))); simp only [Act.put, List.setIfInBounds_toArray, List.set_cons_zero, List.set_cons_succ])
        ((refine AnyT.take 3 20 ?_ rfl (by kernel_rfl) (by kernel_rfl) (by kernel_rfl) (by kernel_rfl) rfl (by kernel_rfl) rfl (fun _ _ _ _ h => h) rfl ?_ (by assumption) ?_); rotate_left; (intro w hSw; (try dsimp only at hSw); go_simp; (try (with_reducible rfl))); simp only [Act.put, List.setIfInBounds_toArray, List.set_cons_zero, List.set_cons_succ])
        ((refine AnyT.takeAny 4 21 ?_ rfl (by kernel_rfl) (by kernel_rfl) (by kernel_rfl) rfl rfl (fun _ _ _ _ h => h) rfl ?_ (by assumption) ?_); rotate_left; (intro w; go_simp; (try (with_reducible rfl))); simp only [Act.put, List.setIfInBounds_toArray, List.set_cons_zero, List.set_cons_succ])
        ((refine AnyT.takeAny 5 22 ?_ rfl (by kernel_rfl) (by kernel_rfl) (by kernel_rfl) rfl rfl (fun _ _ _ _ h => h) rfl ?_ (by assumption) ?_); rotate_left; (intro w; go_simp; (try (with_reducible rfl))); simp only [Act.put, List.setIfInBounds_toArray, List.set_cons_zero, List.set_cons_succ])
        ((refine AnyT.takeAny 6 23 ?_ rfl (by kernel_rfl) (by kernel_rfl) (by kernel_rfl) rfl rfl (fun _ _ _ _ h => h) rfl ?_ (by assumption) ?_); rotate_left; (intro w; go_simp; (try (with_reducible rfl))); simp only [Act.put, List.setIfInBounds_toArray, List.set_cons_zero, List.set_cons_succ])
        ((refine AnyT.take 7 24 ?_ rfl (by kernel_rfl) (by kernel_rfl) (by kernel_rfl) (by kernel_rfl) rfl (by kernel_rfl) rfl (fun _ _ _ _ h => h) rfl ?_ (by assumption) ?_); rotate_left; (intro w hSw; (try dsimp only at hSw); go_simp; (try (with_reducible rfl))); simp only [Act.put, List.setIfInBounds_toArray, List.set_cons_zero, List.set_cons_succ])
        ((refine AnyT.takeAny 8 25 ?_ rfl (by kernel_rfl) (by kernel_rfl) (by kernel_rfl) rfl rfl (fun _ _ _ _ h => h) rfl ?_ (by assumption) ?_); rotate_left; (intro w; go_simp; (try (with_reducible rfl))); simp only [Act.put, List.setIfInBounds_toArray, List.set_cons_zero, List.set_cons_succ])
        refine AnyT.done (by kernel_rfl) ?_ _
        clear hHeld
        by_cases hxy : X = Y
        · subst hxy
          have hq : (!X.toList == X.toList) = false := by simp
          (try rw [hq])
          go_wp2_with fail
          go_roundw
          case rel => exact ⟨k + 1, by omega, by go_num, Lib.hid (HST.out rfl), HD.out⟩
          case measure => simp [intOf]; omega
        · have hne := str_ne hxy
          have hne2 : (!X.toList == Y.toList) = true := by rw [hne]; rfl
          have HF := Lib.hid (same_f (HNE.out hxy))
          clear hxy HST HNE
          (try rw [hne2])
          go_wp2_with fail
          go_ret
          exact ⟨by rw [HF.out]; rfl, HD.out⟩
      · obtain rfl : k = xs.length := by omega
        have HB := Lib.hid hb; have HT := Lib.hid (same_t (take_all htk.out HL.out)); clear hb htk
        go_wp2_with fail
        go_ret
        exact ⟨by rw [HT.out]; rfl, HB.out⟩
  · have hf := Lib.hid (same_f (ne_of_len hl))
    have n1 : ((xs.length : Int) == (ys.length : Int)) = false := by rw [beq_eq_false_iff_ne]; omega
    have n2 : ((xs.length : Int) != (ys.length : Int)) = true := by rw [bne_iff_ne]; omega
    clear hl h h'
    go_enter Tryz.func36, Tryz.ntmps36
    go_wp2_with fail
    go_ret
    exact ⟨by rw [hf.out]; rfl, Below.refl _ _⟩

end Go.Proofs.YtfibjcaidnofmaaGreatDoor

/- The program's reader of bytes walked: take, one. -/
namespace Go.Proofs.YtfibjcaidnofmaaGreatDoor
open Go.RowKit

def rdTake (rest : ByteArray) (n : Nat) : ByteArray × ByteArray := if n ≤ rest.size then (mkB (rest.data.toList.take n), mkB (rest.data.toList.drop n)) else (⟨#[]⟩, rest)
/-- The reader in block b: what is left, and whether there was too little. -/
abbrev RdB (w : World) (b : Nat) (rest : ByteArray) (bad : Bool) : Prop := Blk w b 91 #[.string rest, .bool bad]

set_option maxHeartbeats 4000000 in
set_option maxRecDepth 100000 in
theorem take_any (b : Nat) (rest : ByteArray) (bad : Bool) (n : Nat) (w : World) (hB : RdB w b rest bad) (_ : rest.size ≤ 1000000) (_ : n ≤ 1000000) :
    Calls Tryz.prog 62 #[.pointer (some ⟨b, 0, none⟩), .int .i64 n] w fun e w' => e = .returned (.string (rdTake rest n).1) ∧ RdB w' b (rdTake rest n).2 (bad || decide (rest.size < n)) ∧ Out [b] w w' ∧ w'.heap.size = w.heap.size := by
  have f := hB.cell
  have fz := hB.frozen
  have HB := Lib.hid hB
  by_cases h : n ≤ rest.size
  · have i1 : ¬ (rest.size : Int) < (n : Int) := by omega
    have HR := Lib.hid (show rdTake rest n = (rest.extract 0 n, rest.extract n rest.size) by unfold rdTake; rw [if_pos h, extn_take, extn_drop])
    have HD := Lib.hid (show (bad || decide (rest.size < n)) = bad by rw [decide_eq_false (by omega), Bool.or_false])
    rw [HR.out, HD.out]
    go_enter Tryz.func62, Tryz.ntmps62
    go_wp2_with fail
    go_ret
    refine ⟨rfl, ?_, (Out.refl [b] w).setCell (by simp) _, by simp⟩
    have := HB.out.set_ 0 (.string (rest.extract n rest.size))
    simpa using this
  · have i1 : (rest.size : Int) < (n : Int) := by omega
    have HR := Lib.hid (show rdTake rest n = (⟨#[]⟩, rest) by unfold rdTake; rw [if_neg h])
    have HD := Lib.hid (show (bad || decide (rest.size < n)) = true by rw [decide_eq_true (by omega), Bool.or_true])
    rw [HR.out, HD.out]
    go_enter Tryz.func62, Tryz.ntmps62
    go_wp2_with fail
    go_ret
    refine ⟨rfl, ?_, (Out.refl [b] w).setCell (by simp) _, by simp⟩
    have := HB.out.set_ 1 (.bool true)
    simpa using this

def rdOne (rest : ByteArray) : Nat × ByteArray := match rest.data.toList with
  | [] => (0, rest)
  | c :: l => (c.toNat, mkB l)

set_option maxHeartbeats 4000000 in
set_option maxRecDepth 100000 in
theorem one_any (b : Nat) (rest : ByteArray) (bad : Bool) (w : World) (hB : RdB w b rest bad) (hr : rest.size ≤ 1000000) :
    Calls Tryz.prog 61 #[.pointer (some ⟨b, 0, none⟩)] w fun e w' => e = .returned (.int .i64 (rdOne rest).1) ∧ RdB w' b (rdOne rest).2 (bad || decide (rest.size < 1)) ∧ Out [b] w w' ∧ w'.heap.size = w.heap.size := by
  have HT := Lib.hid (take_any b rest bad 1 w hB hr (by omega))
  have hl : rest.data.toList.length = rest.size := by simp
  cases hc : rest.data.toList with
  | nil =>
    have h0 : rest.size = 0 := by rw [← hl, hc]; rfl
    have HR := Lib.hid (show rdTake rest 1 = (⟨#[]⟩, rest) by unfold rdTake; rw [if_neg (by omega)])
    have HO := Lib.hid (show rdOne rest = (0, rest) by unfold rdOne; rw [hc])
    rw [HR.out] at HT
    rw [HO.out]
    clear hl hc h0
    go_enter Tryz.func61, Tryz.ntmps61
    go_wp2_with fail
    refine HT.out.mono ?_; rintro e1 w1 ⟨rfl, h1, h2, h3⟩
    have H := Lib.hid (And.intro h1 (And.intro h2 h3))
    clear h1 h2 h3
    go_wp2_with fail
    go_ret
    exact ⟨rfl, H.out.1, H.out.2.1, H.out.2.2⟩
  | cons c l =>
    have h0 : rest.size = l.length + 1 := by rw [← hl, hc]; rfl
    have HR := Lib.hid (show rdTake rest 1 = (mkB [c], mkB l) by unfold rdTake; rw [if_pos (by omega), hc]; rfl)
    have HO := Lib.hid (show rdOne rest = (c.toNat, mkB l) by unfold rdOne; rw [hc])
    rw [HR.out] at HT
    rw [HO.out]
    have q0 : ((mkB [c]).toList == []) = false := by
      rw [beq_eq_false_iff_ne, ByteArray.toList_eq]
      intro e
      cases e
    have q1 : (0 : Int) < ((mkB [c]).size : Int) := by show (0 : Int) < 1; omega
    have hs1 : 0 < (mkB [c]).size := by show 0 < 1; omega
    have q2 : (mkB [c])[0] = c := rfl
    have q3 : (mkB [c])[0].toNat ≤ 255 := by have := (mkB [c])[0].toNat_lt; omega
    clear hl hc h0
    generalize mkB [c] = C at *
    go_enter Tryz.func61, Tryz.ntmps61
    go_wp2_with fail
    refine HT.out.mono ?_; rintro e1 w1 ⟨rfl, h1, h2, h3⟩
    have H := Lib.hid (And.intro h1 (And.intro h2 h3))
    clear h1 h2 h3
    go_wp2_with fail
    go_ret
    refine ⟨?_, H.out.1, H.out.2.1, H.out.2.2⟩
    show Ending.returned (.int .i64 (wrap64 (c.toNat : Int))) = _
    rw [show wrap64 (c.toNat : Int) = (c.toNat : Int) by have := c.toNat_lt; unfold wrap64; omega]
end Go.Proofs.YtfibjcaidnofmaaGreatDoor
